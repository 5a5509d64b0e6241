/- Contract: report.Split. -/
import Derived.Test.YtajpggnmhkpbkaaRfw43
import Derived.Test.YtajpggnmhkpbkaaRfw46

set_option linter.unusedVariables false
set_option linter.unusedSimpArgs false
namespace Go.Proofs.Ytajpggnmhkpbkaa
open Go.RowKit

theorem rp_execLoad (ρ : Operand → Value) (dst : Option Tmp) (x : Operand) (ty : TypeId) (pos : String) (after : Array Edge) (guard : Option (Nat × Bool)) :
    execOp ρ { dst, op := .load 43 x, type := ty, pos, after, guard } = recLoad 43 (ρ x) := rfl
theorem rp_load (w : World) (b o : Nat) (h : okL 10 w b o) : (recLoad 43 (.pointer (some ⟨b, o, none⟩))).run Try.prog w = .ok (.value (.agg (loL 10 w b o).toArray)) w := by
  unfold recLoad
  rw [Sem.run_bind, run_load_rec 10 Try.underlying43 rfl (by kernel_rfl) w b o h]
  rfl
theorem rp_execStore (ρ : Operand → Value) (dst : Option Tmp) (x y : Operand) (ty : TypeId) (pos : String) (after : Array Edge) (guard : Option (Nat × Bool)) :
    execOp ρ { dst, op := .store 43 x y, type := ty, pos, after, guard } = recStore 43 (ρ x) (ρ y) := rfl
theorem rp_store (w : World) (b o : Nat) (cs : List Value) (ht : w.there b o 10) (hn : cs.length = 10) (h1 : cs.all (·.oneCell') = true) :
    (recStore 43 (.pointer (some ⟨b, o, none⟩)) (.agg cs.toArray)).run Try.prog w = .ok .skip (w.setCells b o cs) := by
  unfold recStore
  rw [Sem.run_bind, run_store_rec 10 (by kernel_rfl) w b o cs ht hn h1]
  rfl
theorem loadRp {w : World} {g : Nat} {cs : Array Value} {e : TypeId} (h : w.heap[g]? = some (.cells cs e (0, 0))) (hs : cs.size = 10) : (loadVar 43 ⟨g, 0, none⟩).run Try.prog w = .ok (.agg cs) w := by
  refine run_loadVar_row w g e 43 cs (0, 0) _ h Try.underlying43 rfl ?_
  rw [hs]; kernel_rfl
theorem there_row10 {w : World} {g : Nat} {cs : Array Value} {e : TypeId} (h : w.heap[g]? = some (.cells cs e (0, 0))) (hn : cs.size = 10) : w.there g 0 10 := fun j hj => by
  rw [cell_of_row w g _ cs _ _ h, frozen_of_row w g _ cs _ h]
  exact ⟨by rw [Array.getElem?_eq_getElem (by omega)]; rfl, rfl⟩
theorem results_two {fn : Func} {a b c : Tmp} {ty : TypeId} {cs ds : Array Value} {P : Program} (h : fn.results = #[.cell a ty, .cell b ty, .tmp c]) (tmps : Array Value) (w : World) (g g' : Nat) (hg : tmps.getD a undef = .pointer (some ⟨g, 0, none⟩)) (hg' : tmps.getD b undef = .pointer (some ⟨g', 0, none⟩)) (hl : (loadVar ty ⟨g, 0, none⟩).run P w = .ok (.agg cs) w) (hl' : (loadVar ty ⟨g', 0, none⟩).run P w = .ok (.agg ds) w) :
    (results fn tmps).run P w = .ok (.tuple #[.agg cs, .agg ds, tmps.getD c undef]) w := by
  simp at hg hg'
  simp [results, h, Sem.run_bind, hg, hg', asAddr, hl, hl']
theorem setCells_rowA {g : Nat} {e : TypeId} {cs : List Value} {old : Array Value} {w : World} (h : w.heap[g]? = some (.cells old e (0, 0))) (hn : old.size = cs.length) : (w.setCells g 0 cs).heap[g]? = some (.cells cs.toArray e (0, 0)) :=
  setCells_rowT (zs := old.toList) (by simpa using h) (by simpa using hn)
/-- the cells of what 'made' tells -/
def Rep.cellsR (e f t M : Int) (z : List Int) (v : Value) : List Value := if e = 0 then .int .i64 f :: .int .i64 t :: v :: .int .i64 M :: z.map (fun i => .int .i64 i) else [.int .i64 0, .int .i64 0, .slice none 0 0, .int .i64 0, .int .i64 0, .int .i64 0, .int .i64 0, .int .i64 0, .int .i64 0, .int .i64 0]
theorem Rep.cellsR_length (e f t M z0 z1 z2 z3 z4 z5 : Int) (v : Value) : (Rep.cellsR e f t M [z0, z1, z2, z3, z4, z5] v).length = 10 := by unfold Rep.cellsR; split <;> rfl
theorem Rep.cellsR_one (e f t M z0 z1 z2 z3 z4 z5 : Int) (p : Option Addr) (n c : Nat) : (Rep.cellsR e f t M [z0, z1, z2, z3, z4, z5] (.slice p n c)).all (·.oneCell') = true := by unfold Rep.cellsR; split <;> rfl
theorem made_any (from0 to0 : Int) (l : List Pst) (p : Option Addr) (n cap : Nat) (w : World) (hs : PS w (.slice p n cap) l) (ev m x0 x1 x2 x3 x4 x5 : Int) (hsum : Post.sums l = ⟨ev, m, [x0, x1, x2, x3, x4, x5]⟩) :
    Calls Try.prog 39 #[.int .i64 from0, .int .i64 to0, .slice p n cap] w fun e w' => e = .returned (.tuple #[.agg (Rep.cellsR ev from0 to0 m [x0, x1, x2, x3, x4, x5] (.slice p n cap)).toArray, .int .i64 ev]) ∧ Below w.heap.size w w' := by
  by_cases h : ev = 0
  · subst h
    exact made_ok from0 to0 l p n cap w hs m x0 x1 x2 x3 x4 x5 hsum
  · have := made_bad from0 to0 l p n cap w hs ev m x0 x1 x2 x3 x4 x5 hsum h
    unfold Rep.cellsR
    rw [if_neg h]
    exact this
/-- what a split tells -/
def Rep.SplitR (a b : Int) (l : List Pst) (ba : Bool) (day er1 M1 : Int) (z : List Int) (er2 M2 : Int) (u : List Int) (w : World) (C : (Ending → World → Prop) → Prop) : Prop :=
  ∀ R : Ending → World → Prop,
    (∀ w', ¬ (ba = true ∧ a ≤ day ∧ day < b) → Below w.heap.size w w' → R (.returned (.tuple #[.agg #[.int .i64 0, .int .i64 0, .slice none 0 0, .int .i64 0, .int .i64 0, .int .i64 0, .int .i64 0, .int .i64 0, .int .i64 0, .int .i64 0], .agg #[.int .i64 0, .int .i64 0, .slice none 0 0, .int .i64 0, .int .i64 0, .int .i64 0, .int .i64 0, .int .i64 0, .int .i64 0, .int .i64 0], .int .i64 2])) w') →
    (∀ w', (ba = true ∧ a ≤ day ∧ day < b) → ¬ (er1 = 0 ∧ er2 = 0) → Below w.heap.size w w' → R (.returned (.tuple #[.agg #[.int .i64 0, .int .i64 0, .slice none 0 0, .int .i64 0, .int .i64 0, .int .i64 0, .int .i64 0, .int .i64 0, .int .i64 0, .int .i64 0], .agg #[.int .i64 0, .int .i64 0, .slice none 0 0, .int .i64 0, .int .i64 0, .int .i64 0, .int .i64 0, .int .i64 0, .int .i64 0, .int .i64 0], .int .i64 14])) w') →
    (∀ (w' : World) (v1 v2 : Value), (ba = true ∧ a ≤ day ∧ day < b) → er1 = 0 → er2 = 0 → LS Pst.cells 10 w' v1 (l.filter (Rep.upTo day)) → LS Pst.cells 10 w' v2 (l.filter (Rep.behind day)) → Below w.heap.size w w' → R (.returned (.tuple #[.agg (Rep.cellsR er1 a day M1 z v1).toArray, .agg (Rep.cellsR er2 (day + 1) b M2 u v2).toArray, .int .i64 0])) w') → C R
attribute [local go_sem ↓] rp_execLoad rp_execStore

attribute [local go_sem] rp_load rp_store loL_drew okL_drew there_sc

set_option maxRecDepth 8000 in
set_option maxHeartbeats 8000000 in
theorem split_any (a b : Int) (l : List Pst) (p : Option Addr) (n cap : Nat) (m x0 x1 x2 x3 x4 x5 day : Int) (ba : Bool) (hba : ba = true ↔ Rep.MayP a b l m [x0, x1, x2, x3, x4, x5]) (hnb : n ≤ 1000000) (er1 M1 z0 z1 z2 z3 z4 z5 er2 M2 u0 u1 u2 u3 u4 u5 : Int) (hs1 : Post.sums (l.filter (Rep.upTo day)) = ⟨er1, M1, [z0, z1, z2, z3, z4, z5]⟩) (hs2 : Post.sums (l.filter (Rep.behind day)) = ⟨er2, M2, [u0, u1, u2, u3, u4, u5]⟩) (w : World) (hs : PS w (.slice p n cap) l) :
    Rep.SplitR a b l ba day er1 M1 [z0, z1, z2, z3, z4, z5] er2 M2 [u0, u1, u2, u3, u4, u5] w (Calls Try.prog 18 #[.agg #[.int .i64 a, .int .i64 b, .slice p n cap, .int .i64 m, .int .i64 x0, .int .i64 x1, .int .i64 x2, .int .i64 x3, .int .i64 x4, .int .i64 x5], .int .i64 day] w) := by
  intro R hbad herr hok
  have HWR := Lib.hid hbad; have HER := Lib.hid herr; have HOK := Lib.hid hok
  have HM := Lib.hid (fun W h => pMay_any a b l p n cap m x0 x1 x2 x3 x4 x5 ba hba W h)
  have HDB : Hid (ba = true → 0 ≤ a ∧ a ≤ 1000000 ∧ 0 ≤ b ∧ b ≤ 1000000) := Lib.hid (fun h => by have := (hba.1 h).1; unfold Rep.days at this; simp at this; omega)
  have HS := Lib.hid hs; have HS1 := Lib.hid hs1; have HS2 := Lib.hid hs2
  have HW1 : Hid (WF (l.filter (Rep.upTo day))) := Lib.hid (fun z hz => ps_wf hs z (List.mem_filter.1 hz).1)
  have HW2 : Hid (WF (l.filter (Rep.behind day))) := Lib.hid (fun z hz => ps_wf hs z (List.mem_filter.1 hz).1)
  clear hbad herr hok hba hs hs1 hs2
  have hb1 := ((((Below.refl w.heap.size w).alloc (Nat.le_refl _) (.cells #[.int .i64 a, .int .i64 b, .slice p n cap, .int .i64 m, .int .i64 x0, .int .i64 x1, .int .i64 x2, .int .i64 x3, .int .i64 x4, .int .i64 x5] 43 (0, 0))).alloc (by simp) (.cells #[.int .i64 day] 3 (0, 0))).alloc (by simp; omega) (.cells #[.int .i64 0, .int .i64 0, .slice none 0 0, .int .i64 0, .int .i64 0, .int .i64 0, .int .i64 0, .int .i64 0, .int .i64 0, .int .i64 0] 43 (0, 0))).alloc (by simp; omega) (.cells #[.int .i64 0, .int .i64 0, .slice none 0 0, .int .i64 0, .int .i64 0, .int .i64 0, .int .i64 0, .int .i64 0, .int .i64 0, .int .i64 0] 43 (0, 0))
  have hr0 := row_alloc (row_alloc (row_alloc (new_row w (.cells #[.int .i64 a, .int .i64 b, .slice p n cap, .int .i64 m, .int .i64 x0, .int .i64 x1, .int .i64 x2, .int .i64 x3, .int .i64 x4, .int .i64 x5] 43 (0, 0)) _ rfl) (.cells #[.int .i64 day] 3 (0, 0))) (.cells #[.int .i64 0, .int .i64 0, .slice none 0 0, .int .i64 0, .int .i64 0, .int .i64 0, .int .i64 0, .int .i64 0, .int .i64 0, .int .i64 0] 43 (0, 0))) (.cells #[.int .i64 0, .int .i64 0, .slice none 0 0, .int .i64 0, .int .i64 0, .int .i64 0, .int .i64 0, .int .i64 0, .int .i64 0, .int .i64 0] 43 (0, 0))
  have hr1 := row_alloc (row_alloc (new_row (w.alloc (.cells #[.int .i64 a, .int .i64 b, .slice p n cap, .int .i64 m, .int .i64 x0, .int .i64 x1, .int .i64 x2, .int .i64 x3, .int .i64 x4, .int .i64 x5] 43 (0, 0))) (.cells #[.int .i64 day] 3 (0, 0)) (w.heap.size + 1) (by simp)) (.cells #[.int .i64 0, .int .i64 0, .slice none 0 0, .int .i64 0, .int .i64 0, .int .i64 0, .int .i64 0, .int .i64 0, .int .i64 0, .int .i64 0] 43 (0, 0))) (.cells #[.int .i64 0, .int .i64 0, .slice none 0 0, .int .i64 0, .int .i64 0, .int .i64 0, .int .i64 0, .int .i64 0, .int .i64 0, .int .i64 0] 43 (0, 0))
  have hr2 := row_alloc (new_row ((w.alloc (.cells #[.int .i64 a, .int .i64 b, .slice p n cap, .int .i64 m, .int .i64 x0, .int .i64 x1, .int .i64 x2, .int .i64 x3, .int .i64 x4, .int .i64 x5] 43 (0, 0))).alloc (.cells #[.int .i64 day] 3 (0, 0))) (.cells #[.int .i64 0, .int .i64 0, .slice none 0 0, .int .i64 0, .int .i64 0, .int .i64 0, .int .i64 0, .int .i64 0, .int .i64 0, .int .i64 0] 43 (0, 0)) (w.heap.size + 1 + 1) (by simp)) (.cells #[.int .i64 0, .int .i64 0, .slice none 0 0, .int .i64 0, .int .i64 0, .int .i64 0, .int .i64 0, .int .i64 0, .int .i64 0, .int .i64 0] 43 (0, 0))
  have hr3 := new_row (((w.alloc (.cells #[.int .i64 a, .int .i64 b, .slice p n cap, .int .i64 m, .int .i64 x0, .int .i64 x1, .int .i64 x2, .int .i64 x3, .int .i64 x4, .int .i64 x5] 43 (0, 0))).alloc (.cells #[.int .i64 day] 3 (0, 0))).alloc (.cells #[.int .i64 0, .int .i64 0, .slice none 0 0, .int .i64 0, .int .i64 0, .int .i64 0, .int .i64 0, .int .i64 0, .int .i64 0, .int .i64 0] 43 (0, 0))) (.cells #[.int .i64 0, .int .i64 0, .slice none 0 0, .int .i64 0, .int .i64 0, .int .i64 0, .int .i64 0, .int .i64 0, .int .i64 0, .int .i64 0] 43 (0, 0)) (w.heap.size + 1 + 1 + 1) (by simp)
  obtain ⟨f1, f2⟩ := row_loJ (cs := [.int .i64 a, .int .i64 b, .slice p n cap, .int .i64 m, .int .i64 x0, .int .i64 x1, .int .i64 x2, .int .i64 x3, .int .i64 x4, .int .i64 x5]) hr0 rfl
  go_enter Try.func18, Try.ntmps18
  go_wp2_with fail
  generalize (((w.alloc (.cells #[.int .i64 a, .int .i64 b, .slice p n cap, .int .i64 m, .int .i64 x0, .int .i64 x1, .int .i64 x2, .int .i64 x3, .int .i64 x4, .int .i64 x5] 43 (0, 0))).alloc (.cells #[.int .i64 day] 3 (0, 0))).alloc (.cells #[.int .i64 0, .int .i64 0, .slice none 0 0, .int .i64 0, .int .i64 0, .int .i64 0, .int .i64 0, .int .i64 0, .int .i64 0, .int .i64 0] 43 (0, 0))).alloc (.cells #[.int .i64 0, .int .i64 0, .slice none 0 0, .int .i64 0, .int .i64 0, .int .i64 0, .int .i64 0, .int .i64 0, .int .i64 0, .int .i64 0] 43 (0, 0)) = W0 at *
  refine (HM.out _ (HS.out.below hb1)).mono ?_
  rintro e w1 ⟨rfl, hbq⟩
  have HB1 := Lib.hid (hb1.trans (hbq.mono hb1.size))
  have HR0 := Lib.hid ((hbq.block w.heap.size (block_lt hr0)).trans hr0)
  have HR1 := Lib.hid ((hbq.block (w.heap.size + 1) (block_lt hr1)).trans hr1)
  have HR2 := Lib.hid ((hbq.block (w.heap.size + 1 + 1) (block_lt hr2)).trans hr2)
  have HR3 := Lib.hid ((hbq.block (w.heap.size + 1 + 1 + 1) (block_lt hr3)).trans hr3)
  have HSL := Lib.hid ((HS.out.below hb1).below hbq)
  clear hb1 hbq hr0 hr1 hr2 hr3 f1 f2 HM HS
  have kc0 := fun j => cell_of_row w1 w.heap.size j _ _ _ HR0.out
  have kc1 := fun j => cell_of_row w1 (w.heap.size + 1) j _ _ _ HR1.out
  have h1n : ([.int .i64 0, .int .i64 0, .slice none 0 0, .int .i64 0, .int .i64 0, .int .i64 0, .int .i64 0, .int .i64 0, .int .i64 0, .int .i64 0] : List Value).length = 10 := rfl
  have h1c : ([.int .i64 0, .int .i64 0, .slice none 0 0, .int .i64 0, .int .i64 0, .int .i64 0, .int .i64 0, .int .i64 0, .int .i64 0, .int .i64 0] : List Value).all (·.oneCell') = true := rfl
  by_cases hgd : ba = true ∧ a ≤ day ∧ day < b
  · obtain ⟨rfl, hd1, hd2⟩ := hgd
    obtain ⟨ha1, ha2, ha3, ha4⟩ := HDB.out (by trivial)
    have HD1 := Lib.hid hd1; have HD2 := Lib.hid hd2
    have HSZ := Lib.hid (show w.heap.size + 1 + 1 + 1 < w1.heap.size from block_lt HR3.out)
    have HDW := Lib.hid (show IntKind.i64.wrap (day + 1) = day + 1 by rw [IntKind.wrap_i64]; omega)
    have HPK := Lib.hid (fun W h hc => pickUp_any l day (w.heap.size + 1) p n cap hnb W h hc)
    have HPB := Lib.hid (fun W h hc => pickBe_any l day (w.heap.size + 1) p n cap hnb W h hc)
    have HMA := Lib.hid (fun W p' n' c' h => made_any a day (l.filter (Rep.upTo day)) p' n' c' W h er1 M1 z0 z1 z2 z3 z4 z5 HS1.out)
    have HMB := Lib.hid (fun W p' n' c' h => made_any (day + 1) b (l.filter (Rep.behind day)) p' n' c' W h er2 M2 u0 u1 u2 u3 u4 u5 HS2.out)
    have HC1 := Lib.hid (fun v => Rep.cellsR_length er1 a day M1 z0 z1 z2 z3 z4 z5 v)
    have HC2 := Lib.hid (fun v => Rep.cellsR_length er2 (day + 1) b M2 u0 u1 u2 u3 u4 u5 v)
    have HO1 := Lib.hid (fun p n c => Rep.cellsR_one er1 a day M1 z0 z1 z2 z3 z4 z5 p n c)
    have HO2 := Lib.hid (fun p n c => Rep.cellsR_one er2 (day + 1) b M2 u0 u1 u2 u3 u4 u5 p n c)
    generalize hC1 : Rep.cellsR er1 a day M1 [z0, z1, z2, z3, z4, z5] = C1 at *
    generalize hC2 : Rep.cellsR er2 (day + 1) b M2 [u0, u1, u2, u3, u4, u5] = C2 at *
    clear hC1 hC2 HS1 HS2
    generalize l.filter (Rep.upTo day) = l1 at *
    generalize l.filter (Rep.behind day) = l2 at *
    obtain ⟨n1, hn1⟩ : ∃ k, l1.length = k := ⟨_, rfl⟩
    obtain ⟨n2, hn2⟩ : ∃ k, l2.length = k := ⟨_, rfl⟩
    rw [hn1] at HPK
    rw [hn2] at HPB
    have HN1 := Lib.hid hn1; have HN2 := Lib.hid hn2
    clear hn1 hn2
    go_upto_region 3 with fail
    clear kc0 kc1 HDB
    refine wp_region_box 12 (T := fun A B => KeptB w1.heap.size 43 10 A B) (G := fun W => Below w1.heap.size w1 W) (R := fun k => match k with | 0 => fun v _ => v = .pointer (some ⟨w.heap.size, 0, none⟩) | 1 => fun v _ => v = .int .i64 a | 2 => fun v _ => v = .int .i64 day | 3 => fun v _ => v = .pointer (some ⟨w.heap.size, 2, none⟩) | 4 => fun v _ => v = .slice p n cap | 5 => fun v _ => v = .func (.func 48) #[] #[.pointer (some ⟨w.heap.size + 1, 0, none⟩)] | 6 => fun v W => W.ownsRow w1.heap.size 68 10 v n1 (encL Pst.cells l1) | 7 => fun v W => ∃ (p2 : Option Addr) (c2 : Nat), v = .tuple #[.agg (C1 (.slice p2 n1 c2)).toArray, .int .i64 er1] ∧ W.ownsRow w1.heap.size 68 10 (.slice p2 n1 c2) n1 (encL Pst.cells l1) | 8 => fun v W => ∃ (p2 : Option Addr) (c2 : Nat), v = .tuple #[.agg (C1 (.slice p2 n1 c2)).toArray, .int .i64 er1] ∧ W.ownsRow w1.heap.size 68 10 (.slice p2 n1 c2) n1 (encL Pst.cells l1) | 9 => fun v W => ∃ (p2 : Option Addr) (c2 : Nat), v = .agg (C1 (.slice p2 n1 c2)).toArray ∧ W.ownsRow w1.heap.size 68 10 (.slice p2 n1 c2) n1 (encL Pst.cells l1) | 10 => fun v _ => v = .int .i64 er1 | 11 => fun v W => ∃ N : Nat, v = .pointer (some ⟨N, 0, none⟩) ∧ w1.heap.size ≤ N ∧ ∃ cs : Array Value, cs.size = 10 ∧ W.heap[N]? = some (.cells cs 43 (0, 0)) | 12 => fun _ _ => True | 13 => fun v _ => v = .int .i64 er1 | _ => fun _ _ => True) (E := fun k => match k with | 0 => fun v => v = .pointer (some ⟨w.heap.size, 0, none⟩) | 1 => fun v => v = .int .i64 a | 2 => fun v => v = .int .i64 day | 3 => fun v => v = .pointer (some ⟨w.heap.size, 2, none⟩) | 4 => fun v => v = .slice p n cap | 5 => fun v => v = .func (.func 48) #[] #[.pointer (some ⟨w.heap.size + 1, 0, none⟩)] | 6 => fun _ => True | 7 => fun _ => True | 8 => fun v => ∃ (p2 : Option Addr) (c2 : Nat), v = .tuple #[.agg (C1 (.slice p2 n1 c2)).toArray, .int .i64 er1] | 9 => fun _ => True | 10 => fun v => v = .int .i64 er1 | 11 => fun _ => True | 12 => fun _ => True | 13 => fun v => v = .int .i64 er1 | _ => fun _ => True) (Fin := fun f W => ∃ (N : Nat) (p2 : Option Addr) (c2 : Nat), f 11 = .pointer (some ⟨N, 0, none⟩) ∧ w1.heap.size ≤ N ∧ W.heap[N]? = some (.cells (C1 (.slice p2 n1 c2)).toArray 43 (0, 0)) ∧ W.ownsRow w1.heap.size 68 10 (.slice p2 n1 c2) n1 (encL Pst.cells l1) ∧ Below w1.heap.size w1 W) (by kernel_rfl) (by kernel_rfl) (by kernel_rfl) ?iL ?iT ?iRE ?iER ?iF ((Below.refl _ _).drew) ?iS ?iD
    case iL => decide
    case iT =>
      intro k v A B hT h
      match k, h with
      | 0, h => exact h
      | 1, h => exact h
      | 2, h => exact h
      | 3, h => exact h
      | 4, h => exact h
      | 5, h => exact h
      | 6, h => exact hT.own (by decide) h
      | 7, h => exact (by obtain ⟨p2, c2, e, ho⟩ := h; exact ⟨p2, c2, e, hT.own (by decide) ho⟩)
      | 8, h => exact (by obtain ⟨p2, c2, e, ho⟩ := h; exact ⟨p2, c2, e, hT.own (by decide) ho⟩)
      | 9, h => exact (by obtain ⟨p2, c2, e, ho⟩ := h; exact ⟨p2, c2, e, hT.own (by decide) ho⟩)
      | 10, h => exact h
      | 11, h => exact (by obtain ⟨N, e, hN, cs, hn, hr⟩ := h; obtain ⟨cs2, h2, h3⟩ := hT.box N cs hr hn; exact ⟨N, e, hN, cs2, h2, h3⟩)
      | 12, h => exact h
      | 13, h => exact h
      | _ + 14, h => exact trivial
    case iRE =>
      intro k v W h
      match k, h with
      | 0, h => exact h
      | 1, h => exact h
      | 2, h => exact h
      | 3, h => exact h
      | 4, h => exact h
      | 5, h => exact h
      | 6, h => exact trivial
      | 7, h => exact trivial
      | 8, h => exact (by obtain ⟨p2, c2, e, ho⟩ := h; exact ⟨p2, c2, e⟩)
      | 9, h => exact trivial
      | 10, h => exact h
      | 11, h => exact trivial
      | 12, h => exact trivial
      | 13, h => exact h
      | _ + 14, h => exact trivial
    case iER =>
      intro k v W hk hw h
      match k, hk, hw, h with
      | 0, _, hw, _ => exact no_ft hw (by kernel_rfl)
      | 1, _, hw, _ => exact no_ft hw (by kernel_rfl)
      | 2, _, hw, _ => exact no_ft hw (by kernel_rfl)
      | 3, _, hw, _ => exact no_ft hw (by kernel_rfl)
      | 4, _, hw, _ => exact no_ft hw (by kernel_rfl)
      | 5, _, hw, _ => exact no_ft hw (by kernel_rfl)
      | 6, _, hw, _ => exact no_ft hw (by kernel_rfl)
      | 7, _, hw, _ => exact no_ft hw (by kernel_rfl)
      | 8, _, hw, _ => exact no_ft hw (by kernel_rfl)
      | 9, _, hw, _ => exact no_ft hw (by kernel_rfl)
      | 10, _, _, h => exact h
      | 11, _, hw, _ => exact no_ft hw (by kernel_rfl)
      | 12, hk, _, _ => exact absurd rfl hk
      | 13, _, _, h => exact h
      | _ + 14, _, _, h => exact trivial
    case iF =>
      intro f g W h hF
      obtain ⟨N, p2, c2, h1, h2⟩ := hF
      exact ⟨N, p2, c2, (h 11 (by kernel_rfl)).symm.trans h1, h2⟩
    case iS =>
      refine StepsB.consR (by decide) (by kernel_rfl) ?s0 (StepsB.consR (by decide) (by kernel_rfl) ?s1 (StepsB.consR (by decide) (by kernel_rfl) ?s2 (StepsB.consR (by decide) (by kernel_rfl) ?s3 (StepsB.consR (by decide) (by kernel_rfl) ?s4 (StepsB.consR (by decide) (by kernel_rfl) ?s5 (StepsB.consR (by decide) (by kernel_rfl) ?s6 (StepsB.consR (by decide) (by kernel_rfl) ?s7 (StepsB.consR (by decide) (by kernel_rfl) ?s8 (StepsB.consR (by decide) (by kernel_rfl) ?s9 (StepsB.consE (by decide) (by kernel_rfl) ?s10 (StepsB.consR (by decide) (by kernel_rfl) ?s11 (StepsB.consS (by decide) ?s12 (StepsB.consE (by decide) (by kernel_rfl) ?s13 (trivial))))))))))))))
      case s0 =>
        intro f W hG hW K hK
        try dsimp only at hG
        simp only [putF, Act.put, List.setIfInBounds_toArray, List.set_cons_zero, List.set_cons_succ, Nat.reduceAdd, Nat.zero_add] at hK ⊢
        clear hW
        go_simp
        refine hK.out _ _ (KeptB.refl _ _ _ _) hG ?_
        first | exact trivial | with_reducible rfl | rfl
      case s1 =>
        intro f W hG hW K hK
        try dsimp only at hG
        have e0 := hW 0 (by kernel_rfl)
        change f 0 = .pointer (some ⟨w.heap.size, 0, none⟩) at e0
        simp only [putF, Act.put, List.setIfInBounds_toArray, List.set_cons_zero, List.set_cons_succ, Nat.reduceAdd, Nat.zero_add] at hK ⊢
        (try rw [e0])
        (try rw [e0] at hK)
        have hrw := (hG.block w.heap.size (block_lt HR0.out)).trans HR0.out
        have kc := fun j => cell_of_row W (w.heap.size) j _ _ _ hrw
        clear hW
        go_simp
        refine hK.out _ _ (KeptB.refl _ _ _ _) hG ?_
        first | with_reducible rfl | rfl
      case s2 =>
        intro f W hG hW K hK
        try dsimp only at hG
        simp only [putF, Act.put, List.setIfInBounds_toArray, List.set_cons_zero, List.set_cons_succ, Nat.reduceAdd, Nat.zero_add] at hK ⊢
        have hrw := (hG.block (w.heap.size + 1) (block_lt HR1.out)).trans HR1.out
        have kc := fun j => cell_of_row W ((w.heap.size + 1)) j _ _ _ hrw
        clear hW
        go_simp
        refine hK.out _ _ (KeptB.refl _ _ _ _) hG ?_
        first | with_reducible rfl | rfl
      case s3 =>
        intro f W hG hW K hK
        try dsimp only at hG
        simp only [putF, Act.put, List.setIfInBounds_toArray, List.set_cons_zero, List.set_cons_succ, Nat.reduceAdd, Nat.zero_add] at hK ⊢
        clear hW
        go_simp
        refine hK.out _ _ (KeptB.refl _ _ _ _) hG ?_
        first | exact trivial | with_reducible rfl | rfl
      case s4 =>
        intro f W hG hW K hK
        try dsimp only at hG
        have e3 := hW 3 (by kernel_rfl)
        change f 3 = .pointer (some ⟨w.heap.size, 2, none⟩) at e3
        simp only [putF, Act.put, List.setIfInBounds_toArray, List.set_cons_zero, List.set_cons_succ, Nat.reduceAdd, Nat.zero_add] at hK ⊢
        (try rw [e3])
        (try rw [e3] at hK)
        have hrw := (hG.block w.heap.size (block_lt HR0.out)).trans HR0.out
        have kc := fun j => cell_of_row W (w.heap.size) j _ _ _ hrw
        clear hW
        go_simp
        refine hK.out _ _ (KeptB.refl _ _ _ _) hG ?_
        first | with_reducible rfl | rfl
      case s5 =>
        intro f W hG hW K hK
        try dsimp only at hG
        simp only [putF, Act.put, List.setIfInBounds_toArray, List.set_cons_zero, List.set_cons_succ, Nat.reduceAdd, Nat.zero_add] at hK ⊢
        clear hW
        go_simp
        refine hK.out _ _ (KeptB.refl _ _ _ _) hG ?_
        first | exact trivial | with_reducible rfl | rfl
      case s6 =>
        intro f W hG hW K hK
        try dsimp only at hG
        have e4 := hW 4 (by kernel_rfl)
        change f 4 = .slice p n cap at e4
        have e5 := hW 5 (by kernel_rfl)
        change f 5 = .func (.func 48) #[] #[.pointer (some ⟨w.heap.size + 1, 0, none⟩)] at e5
        simp only [putF, Act.put, List.setIfInBounds_toArray, List.set_cons_zero, List.set_cons_succ, Nat.reduceAdd, Nat.zero_add] at hK ⊢
        (try rw [e4])
        (try rw [e4] at hK)
        (try rw [e5])
        (try rw [e5] at hK)
        have hrw := (hG.block (w.heap.size + 1) (block_lt HR1.out)).trans HR1.out
        have kc : W.cell? ⟨w.heap.size + 1, 0, none⟩ = some (.int .i64 day) := cell_of_row W (w.heap.size + 1) 0 _ _ _ hrw
        clear hW
        go_simp
        refine (HPK.out W (HSL.out.below hG) kc).mono ?_
        rintro e w' ⟨v', rfl, hown, hb⟩
        exact hK.out _ _ (KeptB.of_below hb) (hG.trans (hb.mono hG.size)) (own_lower hown hG.size)
      case s7 =>
        intro f W hG hW K hK
        try dsimp only at hG
        have e1 := hW 1 (by kernel_rfl)
        change f 1 = .int .i64 a at e1
        have e2 := hW 2 (by kernel_rfl)
        change f 2 = .int .i64 day at e2
        have e6 := hW 6 (by kernel_rfl)
        try dsimp only at e6
        simp only [putF, Act.put, List.setIfInBounds_toArray, List.set_cons_zero, List.set_cons_succ, Nat.reduceAdd, Nat.zero_add] at hK ⊢
        (try rw [e1])
        (try rw [e1] at hK)
        (try rw [e2])
        (try rw [e2] at hK)
        obtain ⟨p6, c6, h6⟩ := (LS.of_own e6 Pst.cells_length (by decide)).shape
        rw [HN1.out] at h6
        simp only [h6] at e6 hK ⊢
        have hps := ps_of_ls (LS.of_own e6 Pst.cells_length (by decide)) HW1.out
        clear hW
        go_simp
        refine (HMA.out W p6 _ c6 hps).mono ?_
        rintro e w' ⟨rfl, hb⟩
        exact hK.out _ _ (KeptB.of_below hb) (hG.trans (hb.mono hG.size)) ⟨p6, c6, rfl, (KeptB.of_below (B := w1.heap.size) (e := 43) (n := 10) hb).own (by decide) e6⟩
      case s8 =>
        intro f W hG hW K hK
        try dsimp only at hG
        have e7 := hW 7 (by kernel_rfl)
        try dsimp only at e7
        simp only [putF, Act.put, List.setIfInBounds_toArray, List.set_cons_zero, List.set_cons_succ, Nat.reduceAdd, Nat.zero_add] at hK ⊢
        obtain ⟨p2, c2, h2, ho2⟩ := e7
        simp only [h2] at hK ⊢
        clear hW
        go_simp
        refine hK.out _ _ (KeptB.refl _ _ _ _) hG ?_
        exact ⟨p2, c2, rfl, ho2⟩
      case s9 =>
        intro f W hG hW K hK
        try dsimp only at hG
        have e8 := hW 8 (by kernel_rfl)
        try dsimp only at e8
        simp only [putF, Act.put, List.setIfInBounds_toArray, List.set_cons_zero, List.set_cons_succ, Nat.reduceAdd, Nat.zero_add] at hK ⊢
        obtain ⟨p2, c2, h2, ho2⟩ := e8
        simp only [h2] at hK ⊢
        clear hW
        go_simp
        refine hK.out _ _ (KeptB.refl _ _ _ _) hG ?_
        exact ⟨p2, c2, rfl, ho2⟩
      case s10 =>
        intro f W hW K hK
        have e8 := hW 8 (by kernel_rfl)
        try dsimp only at e8
        simp only [putF, Act.put, List.setIfInBounds_toArray, List.set_cons_zero, List.set_cons_succ, Nat.reduceAdd, Nat.zero_add] at hK ⊢
        obtain ⟨p2, c2, h2⟩ := e8
        simp only [h2] at hK ⊢
        clear hW
        go_simp
        refine hK.out _ _ rfl ?_
        first | with_reducible rfl | rfl
      case s11 =>
        intro f W hG hW K hK
        try dsimp only at hG
        simp only [putF, Act.put, List.setIfInBounds_toArray, List.set_cons_zero, List.set_cons_succ, Nat.reduceAdd, Nat.zero_add] at hK ⊢
        clear hW
        go_simp
        refine hK.out _ _ (KeptB.alloc W _) (hG.alloc hG.size _) ?_
        exact ⟨W.heap.size, rfl, hG.size, _, rfl, new_rowW _ _ _ rfl⟩
      case s12 =>
        intro f W hG hW K hK
        try dsimp only at hG
        have e0 := hW 0 (by kernel_rfl)
        change f 0 = .pointer (some ⟨w.heap.size, 0, none⟩) at e0
        have e1 := hW 1 (by kernel_rfl)
        change f 1 = .int .i64 a at e1
        have e2 := hW 2 (by kernel_rfl)
        change f 2 = .int .i64 day at e2
        have e3 := hW 3 (by kernel_rfl)
        change f 3 = .pointer (some ⟨w.heap.size, 2, none⟩) at e3
        have e4 := hW 4 (by kernel_rfl)
        change f 4 = .slice p n cap at e4
        have e5 := hW 5 (by kernel_rfl)
        change f 5 = .func (.func 48) #[] #[.pointer (some ⟨w.heap.size + 1, 0, none⟩)] at e5
        have e6 := hW 6 (by kernel_rfl)
        try dsimp only at e6
        have e7 := hW 7 (by kernel_rfl)
        try dsimp only at e7
        have e8 := hW 8 (by kernel_rfl)
        try dsimp only at e8
        have e9 := hW 9 (by kernel_rfl)
        try dsimp only at e9
        have e11 := hW 11 (by kernel_rfl)
        try dsimp only at e11
        simp only [putF, Act.put, List.setIfInBounds_toArray, List.set_cons_zero, List.set_cons_succ, Nat.reduceAdd, Nat.zero_add] at hK ⊢
        (try rw [e0])
        (try rw [e0] at hK)
        (try rw [e1])
        (try rw [e1] at hK)
        (try rw [e2])
        (try rw [e2] at hK)
        (try rw [e3])
        (try rw [e3] at hK)
        (try rw [e4])
        (try rw [e4] at hK)
        (try rw [e5])
        (try rw [e5] at hK)
        obtain ⟨p2, c2, h2, ho2⟩ := e9
        obtain ⟨N, hN, hNB, cs, hcn, hcr⟩ := e11
        have hfN := hN
        simp only [h2, hN] at hK ⊢
        have th := there_row10 hcr hcn
        have hcl := HC1.out (.slice p2 n1 c2)
        have hco := HO1.out p2 n1 c2
        have hst := KeptB.store (B := w1.heap.size) hcr hcn hNB (C1 (.slice p2 n1 c2)) hcl
        clear hW
        go_simp
        refine hK.out undef _ trivial ?_
        exact ⟨N, p2, c2, rfl, hNB, hst.2, hst.1.own (by decide) ho2, KeptB.below hG hG.size hst.1⟩
      case s13 =>
        intro f W hW K hK
        have e0 := hW 0 (by kernel_rfl)
        change f 0 = .pointer (some ⟨w.heap.size, 0, none⟩) at e0
        have e1 := hW 1 (by kernel_rfl)
        change f 1 = .int .i64 a at e1
        have e2 := hW 2 (by kernel_rfl)
        change f 2 = .int .i64 day at e2
        have e3 := hW 3 (by kernel_rfl)
        change f 3 = .pointer (some ⟨w.heap.size, 2, none⟩) at e3
        have e4 := hW 4 (by kernel_rfl)
        change f 4 = .slice p n cap at e4
        have e5 := hW 5 (by kernel_rfl)
        change f 5 = .func (.func 48) #[] #[.pointer (some ⟨w.heap.size + 1, 0, none⟩)] at e5
        have e8 := hW 8 (by kernel_rfl)
        try dsimp only at e8
        have e10 := hW 10 (by kernel_rfl)
        change f 10 = .int .i64 er1 at e10
        simp only [putF, Act.put, List.setIfInBounds_toArray, List.set_cons_zero, List.set_cons_succ, Nat.reduceAdd, Nat.zero_add] at hK ⊢
        (try rw [e0])
        (try rw [e0] at hK)
        (try rw [e1])
        (try rw [e1] at hK)
        (try rw [e2])
        (try rw [e2] at hK)
        (try rw [e3])
        (try rw [e3] at hK)
        (try rw [e4])
        (try rw [e4] at hK)
        (try rw [e5])
        (try rw [e5] at hK)
        (try rw [e10])
        (try rw [e10] at hK)
        clear hW
        go_simp
        refine hK.out _ _ rfl ?_
        first | exact trivial | with_reducible rfl | rfl
    case iD =>
      intro f W hF hE
      have r10 := hE 10 (by decide)
      change f 10 = .int .i64 er1 at r10
      have r13 := hE 13 (by decide)
      change f 13 = .int .i64 er1 at r13
      have r0 := hE 0 (by decide)
      change f 0 = .pointer (some ⟨w.heap.size, 0, none⟩) at r0
      have r1 := hE 1 (by decide)
      change f 1 = .int .i64 a at r1
      have r2 := hE 2 (by decide)
      change f 2 = .int .i64 day at r2
      have r3 := hE 3 (by decide)
      change f 3 = .pointer (some ⟨w.heap.size, 2, none⟩) at r3
      have r4 := hE 4 (by decide)
      change f 4 = .slice p n cap at r4
      have r5 := hE 5 (by decide)
      change f 5 = .func (.func 48) #[] #[.pointer (some ⟨w.heap.size + 1, 0, none⟩)] at r5
      clear hE
      simp only [putF, Act.put, List.setIfInBounds_toArray, List.set_cons_zero, List.set_cons_succ, Nat.reduceAdd, Nat.zero_add]
      (try rw [r10])
      (try rw [r13])
      (try rw [r0])
      (try rw [r1])
      (try rw [r2])
      (try rw [r3])
      (try rw [r4])
      (try rw [r5])
      obtain ⟨N1, p1, c1, hfN, hNB, hrow, hown, hbb⟩ := hF
      rw [hfN]
      have HNB1 := Lib.hid hNB; have HRW1 := Lib.hid hrow; have HOW1 := Lib.hid hown; have HBB1 := Lib.hid hbb
      clear hfN hNB hrow hown hbb r0 r1 r2 r3 r4 r5 r10 r13
      generalize W = w2 at *
      have HR0 := Lib.hid ((HBB1.out.block _ (block_lt HR0.out)).trans HR0.out); have HR1 := Lib.hid ((HBB1.out.block _ (block_lt HR1.out)).trans HR1.out); have HR2 := Lib.hid ((HBB1.out.block _ (block_lt HR2.out)).trans HR2.out); have HR3 := Lib.hid ((HBB1.out.block _ (block_lt HR3.out)).trans HR3.out)
      have HSL := Lib.hid (HSL.out.below HBB1.out)
      go_upto_region 4 with fail
      refine wp_region_box 13 (T := fun A B => KeptB w2.heap.size 43 10 A B) (G := fun W => Below w2.heap.size w2 W) (R := fun k => match k with | 0 => fun v _ => v = .int .i64 day | 1 => fun v _ => v = .int .i64 (day + 1) | 2 => fun v _ => v = .pointer (some ⟨w.heap.size, 1, none⟩) | 3 => fun v _ => v = .int .i64 b | 4 => fun v _ => v = .pointer (some ⟨w.heap.size, 2, none⟩) | 5 => fun v _ => v = .slice p n cap | 6 => fun v _ => v = .func (.func 49) #[] #[.pointer (some ⟨w.heap.size + 1, 0, none⟩)] | 7 => fun v W => W.ownsRow w2.heap.size 68 10 v n2 (encL Pst.cells l2) | 8 => fun v W => ∃ (p2 : Option Addr) (c2 : Nat), v = .tuple #[.agg (C2 (.slice p2 n2 c2)).toArray, .int .i64 er2] ∧ W.ownsRow w2.heap.size 68 10 (.slice p2 n2 c2) n2 (encL Pst.cells l2) | 9 => fun v W => ∃ (p2 : Option Addr) (c2 : Nat), v = .tuple #[.agg (C2 (.slice p2 n2 c2)).toArray, .int .i64 er2] ∧ W.ownsRow w2.heap.size 68 10 (.slice p2 n2 c2) n2 (encL Pst.cells l2) | 10 => fun v W => ∃ (p2 : Option Addr) (c2 : Nat), v = .agg (C2 (.slice p2 n2 c2)).toArray ∧ W.ownsRow w2.heap.size 68 10 (.slice p2 n2 c2) n2 (encL Pst.cells l2) | 11 => fun v _ => v = .int .i64 er2 | 12 => fun v W => ∃ N : Nat, v = .pointer (some ⟨N, 0, none⟩) ∧ w2.heap.size ≤ N ∧ ∃ cs : Array Value, cs.size = 10 ∧ W.heap[N]? = some (.cells cs 43 (0, 0)) | 13 => fun _ _ => True | 14 => fun v _ => v = .int .i64 er2 | _ => fun _ _ => True) (E := fun k => match k with | 0 => fun v => v = .int .i64 day | 1 => fun v => v = .int .i64 (day + 1) | 2 => fun v => v = .pointer (some ⟨w.heap.size, 1, none⟩) | 3 => fun v => v = .int .i64 b | 4 => fun v => v = .pointer (some ⟨w.heap.size, 2, none⟩) | 5 => fun v => v = .slice p n cap | 6 => fun v => v = .func (.func 49) #[] #[.pointer (some ⟨w.heap.size + 1, 0, none⟩)] | 7 => fun _ => True | 8 => fun _ => True | 9 => fun v => ∃ (p2 : Option Addr) (c2 : Nat), v = .tuple #[.agg (C2 (.slice p2 n2 c2)).toArray, .int .i64 er2] | 10 => fun _ => True | 11 => fun v => v = .int .i64 er2 | 12 => fun _ => True | 13 => fun _ => True | 14 => fun v => v = .int .i64 er2 | _ => fun _ => True) (Fin := fun f W => ∃ (N : Nat) (p2 : Option Addr) (c2 : Nat), f 12 = .pointer (some ⟨N, 0, none⟩) ∧ w2.heap.size ≤ N ∧ W.heap[N]? = some (.cells (C2 (.slice p2 n2 c2)).toArray 43 (0, 0)) ∧ W.ownsRow w2.heap.size 68 10 (.slice p2 n2 c2) n2 (encL Pst.cells l2) ∧ Below w2.heap.size w2 W) (by kernel_rfl) (by kernel_rfl) (by kernel_rfl) ?iL ?iT ?iRE ?iER ?iF ((Below.refl _ _).drew) ?iS ?iD
      case iL => decide
      case iT =>
        intro k v A B hT h
        match k, h with
        | 0, h => exact h
        | 1, h => exact h
        | 2, h => exact h
        | 3, h => exact h
        | 4, h => exact h
        | 5, h => exact h
        | 6, h => exact h
        | 7, h => exact hT.own (by decide) h
        | 8, h => exact (by obtain ⟨p2, c2, e, ho⟩ := h; exact ⟨p2, c2, e, hT.own (by decide) ho⟩)
        | 9, h => exact (by obtain ⟨p2, c2, e, ho⟩ := h; exact ⟨p2, c2, e, hT.own (by decide) ho⟩)
        | 10, h => exact (by obtain ⟨p2, c2, e, ho⟩ := h; exact ⟨p2, c2, e, hT.own (by decide) ho⟩)
        | 11, h => exact h
        | 12, h => exact (by obtain ⟨N, e, hN, cs, hn, hr⟩ := h; obtain ⟨cs2, h2, h3⟩ := hT.box N cs hr hn; exact ⟨N, e, hN, cs2, h2, h3⟩)
        | 13, h => exact h
        | 14, h => exact h
        | _ + 15, h => exact trivial
      case iRE =>
        intro k v W h
        match k, h with
        | 0, h => exact h
        | 1, h => exact h
        | 2, h => exact h
        | 3, h => exact h
        | 4, h => exact h
        | 5, h => exact h
        | 6, h => exact h
        | 7, h => exact trivial
        | 8, h => exact trivial
        | 9, h => exact (by obtain ⟨p2, c2, e, ho⟩ := h; exact ⟨p2, c2, e⟩)
        | 10, h => exact trivial
        | 11, h => exact h
        | 12, h => exact trivial
        | 13, h => exact trivial
        | 14, h => exact h
        | _ + 15, h => exact trivial
      case iER =>
        intro k v W hk hw h
        match k, hk, hw, h with
        | 0, _, hw, _ => exact no_ft hw (by kernel_rfl)
        | 1, _, hw, _ => exact no_ft hw (by kernel_rfl)
        | 2, _, hw, _ => exact no_ft hw (by kernel_rfl)
        | 3, _, hw, _ => exact no_ft hw (by kernel_rfl)
        | 4, _, hw, _ => exact no_ft hw (by kernel_rfl)
        | 5, _, hw, _ => exact no_ft hw (by kernel_rfl)
        | 6, _, hw, _ => exact no_ft hw (by kernel_rfl)
        | 7, _, hw, _ => exact no_ft hw (by kernel_rfl)
        | 8, _, hw, _ => exact no_ft hw (by kernel_rfl)
        | 9, _, hw, _ => exact no_ft hw (by kernel_rfl)
        | 10, _, hw, _ => exact no_ft hw (by kernel_rfl)
        | 11, _, _, h => exact h
        | 12, _, hw, _ => exact no_ft hw (by kernel_rfl)
        | 13, hk, _, _ => exact absurd rfl hk
        | 14, _, _, h => exact h
        | _ + 15, _, _, h => exact trivial
      case iF =>
        intro f g W h hF
        obtain ⟨N, p2, c2, h1, h2⟩ := hF
        exact ⟨N, p2, c2, (h 12 (by kernel_rfl)).symm.trans h1, h2⟩
      case iS =>
        refine StepsB.consR (by decide) (by kernel_rfl) ?s0 (StepsB.consR (by decide) (by kernel_rfl) ?s1 (StepsB.consR (by decide) (by kernel_rfl) ?s2 (StepsB.consR (by decide) (by kernel_rfl) ?s3 (StepsB.consR (by decide) (by kernel_rfl) ?s4 (StepsB.consR (by decide) (by kernel_rfl) ?s5 (StepsB.consR (by decide) (by kernel_rfl) ?s6 (StepsB.consR (by decide) (by kernel_rfl) ?s7 (StepsB.consR (by decide) (by kernel_rfl) ?s8 (StepsB.consR (by decide) (by kernel_rfl) ?s9 (StepsB.consR (by decide) (by kernel_rfl) ?s10 (StepsB.consE (by decide) (by kernel_rfl) ?s11 (StepsB.consR (by decide) (by kernel_rfl) ?s12 (StepsB.consS (by decide) ?s13 (StepsB.consE (by decide) (by kernel_rfl) ?s14 (trivial)))))))))))))))
        case s0 =>
          intro f W hG hW K hK
          try dsimp only at hG
          simp only [putF, Act.put, List.setIfInBounds_toArray, List.set_cons_zero, List.set_cons_succ, Nat.reduceAdd, Nat.zero_add] at hK ⊢
          have hrw := (hG.block (w.heap.size + 1) (block_lt HR1.out)).trans HR1.out
          have kc := fun j => cell_of_row W ((w.heap.size + 1)) j _ _ _ hrw
          clear hW
          go_simp
          refine hK.out _ _ (KeptB.refl _ _ _ _) hG ?_
          first | with_reducible rfl | rfl
        case s1 =>
          intro f W hG hW K hK
          try dsimp only at hG
          have e0 := hW 0 (by kernel_rfl)
          change f 0 = .int .i64 day at e0
          simp only [putF, Act.put, List.setIfInBounds_toArray, List.set_cons_zero, List.set_cons_succ, Nat.reduceAdd, Nat.zero_add] at hK ⊢
          (try rw [e0])
          (try rw [e0] at hK)
          clear hW
          go_simp
          refine hK.out _ _ (KeptB.refl _ _ _ _) hG ?_
          exact congrArg (Value.int .i64) HDW.out
        case s2 =>
          intro f W hG hW K hK
          try dsimp only at hG
          simp only [putF, Act.put, List.setIfInBounds_toArray, List.set_cons_zero, List.set_cons_succ, Nat.reduceAdd, Nat.zero_add] at hK ⊢
          clear hW
          go_simp
          refine hK.out _ _ (KeptB.refl _ _ _ _) hG ?_
          first | exact trivial | with_reducible rfl | rfl
        case s3 =>
          intro f W hG hW K hK
          try dsimp only at hG
          have e2 := hW 2 (by kernel_rfl)
          change f 2 = .pointer (some ⟨w.heap.size, 1, none⟩) at e2
          simp only [putF, Act.put, List.setIfInBounds_toArray, List.set_cons_zero, List.set_cons_succ, Nat.reduceAdd, Nat.zero_add] at hK ⊢
          (try rw [e2])
          (try rw [e2] at hK)
          have hrw := (hG.block w.heap.size (block_lt HR0.out)).trans HR0.out
          have kc := fun j => cell_of_row W (w.heap.size) j _ _ _ hrw
          clear hW
          go_simp
          refine hK.out _ _ (KeptB.refl _ _ _ _) hG ?_
          first | with_reducible rfl | rfl
        case s4 =>
          intro f W hG hW K hK
          try dsimp only at hG
          simp only [putF, Act.put, List.setIfInBounds_toArray, List.set_cons_zero, List.set_cons_succ, Nat.reduceAdd, Nat.zero_add] at hK ⊢
          clear hW
          go_simp
          refine hK.out _ _ (KeptB.refl _ _ _ _) hG ?_
          first | exact trivial | with_reducible rfl | rfl
        case s5 =>
          intro f W hG hW K hK
          try dsimp only at hG
          have e4 := hW 4 (by kernel_rfl)
          change f 4 = .pointer (some ⟨w.heap.size, 2, none⟩) at e4
          simp only [putF, Act.put, List.setIfInBounds_toArray, List.set_cons_zero, List.set_cons_succ, Nat.reduceAdd, Nat.zero_add] at hK ⊢
          (try rw [e4])
          (try rw [e4] at hK)
          have hrw := (hG.block w.heap.size (block_lt HR0.out)).trans HR0.out
          have kc := fun j => cell_of_row W (w.heap.size) j _ _ _ hrw
          clear hW
          go_simp
          refine hK.out _ _ (KeptB.refl _ _ _ _) hG ?_
          first | with_reducible rfl | rfl
        case s6 =>
          intro f W hG hW K hK
          try dsimp only at hG
          simp only [putF, Act.put, List.setIfInBounds_toArray, List.set_cons_zero, List.set_cons_succ, Nat.reduceAdd, Nat.zero_add] at hK ⊢
          clear hW
          go_simp
          refine hK.out _ _ (KeptB.refl _ _ _ _) hG ?_
          first | exact trivial | with_reducible rfl | rfl
        case s7 =>
          intro f W hG hW K hK
          try dsimp only at hG
          have e5 := hW 5 (by kernel_rfl)
          change f 5 = .slice p n cap at e5
          have e6 := hW 6 (by kernel_rfl)
          change f 6 = .func (.func 49) #[] #[.pointer (some ⟨w.heap.size + 1, 0, none⟩)] at e6
          simp only [putF, Act.put, List.setIfInBounds_toArray, List.set_cons_zero, List.set_cons_succ, Nat.reduceAdd, Nat.zero_add] at hK ⊢
          (try rw [e5])
          (try rw [e5] at hK)
          (try rw [e6])
          (try rw [e6] at hK)
          have hrw := (hG.block (w.heap.size + 1) (block_lt HR1.out)).trans HR1.out
          have kc : W.cell? ⟨w.heap.size + 1, 0, none⟩ = some (.int .i64 day) := cell_of_row W (w.heap.size + 1) 0 _ _ _ hrw
          clear hW
          go_simp
          refine (HPB.out W (HSL.out.below hG) kc).mono ?_
          rintro e w' ⟨v', rfl, hown, hb⟩
          exact hK.out _ _ (KeptB.of_below hb) (hG.trans (hb.mono hG.size)) (own_lower hown hG.size)
        case s8 =>
          intro f W hG hW K hK
          try dsimp only at hG
          have e1 := hW 1 (by kernel_rfl)
          change f 1 = .int .i64 (day + 1) at e1
          have e3 := hW 3 (by kernel_rfl)
          change f 3 = .int .i64 b at e3
          have e7 := hW 7 (by kernel_rfl)
          try dsimp only at e7
          simp only [putF, Act.put, List.setIfInBounds_toArray, List.set_cons_zero, List.set_cons_succ, Nat.reduceAdd, Nat.zero_add] at hK ⊢
          (try rw [e1])
          (try rw [e1] at hK)
          (try rw [e3])
          (try rw [e3] at hK)
          obtain ⟨p6, c6, h6⟩ := (LS.of_own e7 Pst.cells_length (by decide)).shape
          rw [HN2.out] at h6
          simp only [h6] at e7 hK ⊢
          have hps := ps_of_ls (LS.of_own e7 Pst.cells_length (by decide)) HW2.out
          clear hW
          go_simp
          refine (HMB.out W p6 _ c6 hps).mono ?_
          rintro e w' ⟨rfl, hb⟩
          exact hK.out _ _ (KeptB.of_below hb) (hG.trans (hb.mono hG.size)) ⟨p6, c6, rfl, (KeptB.of_below (B := w2.heap.size) (e := 43) (n := 10) hb).own (by decide) e7⟩
        case s9 =>
          intro f W hG hW K hK
          try dsimp only at hG
          have e8 := hW 8 (by kernel_rfl)
          try dsimp only at e8
          simp only [putF, Act.put, List.setIfInBounds_toArray, List.set_cons_zero, List.set_cons_succ, Nat.reduceAdd, Nat.zero_add] at hK ⊢
          obtain ⟨p2, c2, h2, ho2⟩ := e8
          simp only [h2] at hK ⊢
          clear hW
          go_simp
          refine hK.out _ _ (KeptB.refl _ _ _ _) hG ?_
          exact ⟨p2, c2, rfl, ho2⟩
        case s10 =>
          intro f W hG hW K hK
          try dsimp only at hG
          have e9 := hW 9 (by kernel_rfl)
          try dsimp only at e9
          simp only [putF, Act.put, List.setIfInBounds_toArray, List.set_cons_zero, List.set_cons_succ, Nat.reduceAdd, Nat.zero_add] at hK ⊢
          obtain ⟨p2, c2, h2, ho2⟩ := e9
          simp only [h2] at hK ⊢
          clear hW
          go_simp
          refine hK.out _ _ (KeptB.refl _ _ _ _) hG ?_
          exact ⟨p2, c2, rfl, ho2⟩
        case s11 =>
          intro f W hW K hK
          have e9 := hW 9 (by kernel_rfl)
          try dsimp only at e9
          simp only [putF, Act.put, List.setIfInBounds_toArray, List.set_cons_zero, List.set_cons_succ, Nat.reduceAdd, Nat.zero_add] at hK ⊢
          obtain ⟨p2, c2, h2⟩ := e9
          simp only [h2] at hK ⊢
          clear hW
          go_simp
          refine hK.out _ _ rfl ?_
          first | with_reducible rfl | rfl
        case s12 =>
          intro f W hG hW K hK
          try dsimp only at hG
          simp only [putF, Act.put, List.setIfInBounds_toArray, List.set_cons_zero, List.set_cons_succ, Nat.reduceAdd, Nat.zero_add] at hK ⊢
          clear hW
          go_simp
          refine hK.out _ _ (KeptB.alloc W _) (hG.alloc hG.size _) ?_
          exact ⟨W.heap.size, rfl, hG.size, _, rfl, new_rowW _ _ _ rfl⟩
        case s13 =>
          intro f W hG hW K hK
          try dsimp only at hG
          have e0 := hW 0 (by kernel_rfl)
          change f 0 = .int .i64 day at e0
          have e1 := hW 1 (by kernel_rfl)
          change f 1 = .int .i64 (day + 1) at e1
          have e2 := hW 2 (by kernel_rfl)
          change f 2 = .pointer (some ⟨w.heap.size, 1, none⟩) at e2
          have e3 := hW 3 (by kernel_rfl)
          change f 3 = .int .i64 b at e3
          have e4 := hW 4 (by kernel_rfl)
          change f 4 = .pointer (some ⟨w.heap.size, 2, none⟩) at e4
          have e5 := hW 5 (by kernel_rfl)
          change f 5 = .slice p n cap at e5
          have e6 := hW 6 (by kernel_rfl)
          change f 6 = .func (.func 49) #[] #[.pointer (some ⟨w.heap.size + 1, 0, none⟩)] at e6
          have e7 := hW 7 (by kernel_rfl)
          try dsimp only at e7
          have e8 := hW 8 (by kernel_rfl)
          try dsimp only at e8
          have e9 := hW 9 (by kernel_rfl)
          try dsimp only at e9
          have e10 := hW 10 (by kernel_rfl)
          try dsimp only at e10
          have e12 := hW 12 (by kernel_rfl)
          try dsimp only at e12
          simp only [putF, Act.put, List.setIfInBounds_toArray, List.set_cons_zero, List.set_cons_succ, Nat.reduceAdd, Nat.zero_add] at hK ⊢
          (try rw [e0])
          (try rw [e0] at hK)
          (try rw [e1])
          (try rw [e1] at hK)
          (try rw [e2])
          (try rw [e2] at hK)
          (try rw [e3])
          (try rw [e3] at hK)
          (try rw [e4])
          (try rw [e4] at hK)
          (try rw [e5])
          (try rw [e5] at hK)
          (try rw [e6])
          (try rw [e6] at hK)
          obtain ⟨p2, c2, h2, ho2⟩ := e10
          obtain ⟨N, hN, hNB, cs, hcn, hcr⟩ := e12
          have hfN := hN
          simp only [h2, hN] at hK ⊢
          have th := there_row10 hcr hcn
          have hcl := HC2.out (.slice p2 n2 c2)
          have hco := HO2.out p2 n2 c2
          have hst := KeptB.store (B := w2.heap.size) hcr hcn hNB (C2 (.slice p2 n2 c2)) hcl
          clear hW
          go_simp
          refine hK.out undef _ trivial ?_
          exact ⟨N, p2, c2, rfl, hNB, hst.2, hst.1.own (by decide) ho2, KeptB.below hG hG.size hst.1⟩
        case s14 =>
          intro f W hW K hK
          have e0 := hW 0 (by kernel_rfl)
          change f 0 = .int .i64 day at e0
          have e1 := hW 1 (by kernel_rfl)
          change f 1 = .int .i64 (day + 1) at e1
          have e2 := hW 2 (by kernel_rfl)
          change f 2 = .pointer (some ⟨w.heap.size, 1, none⟩) at e2
          have e3 := hW 3 (by kernel_rfl)
          change f 3 = .int .i64 b at e3
          have e4 := hW 4 (by kernel_rfl)
          change f 4 = .pointer (some ⟨w.heap.size, 2, none⟩) at e4
          have e5 := hW 5 (by kernel_rfl)
          change f 5 = .slice p n cap at e5
          have e6 := hW 6 (by kernel_rfl)
          change f 6 = .func (.func 49) #[] #[.pointer (some ⟨w.heap.size + 1, 0, none⟩)] at e6
          have e9 := hW 9 (by kernel_rfl)
          try dsimp only at e9
          have e11 := hW 11 (by kernel_rfl)
          change f 11 = .int .i64 er2 at e11
          simp only [putF, Act.put, List.setIfInBounds_toArray, List.set_cons_zero, List.set_cons_succ, Nat.reduceAdd, Nat.zero_add] at hK ⊢
          (try rw [e0])
          (try rw [e0] at hK)
          (try rw [e1])
          (try rw [e1] at hK)
          (try rw [e2])
          (try rw [e2] at hK)
          (try rw [e3])
          (try rw [e3] at hK)
          (try rw [e4])
          (try rw [e4] at hK)
          (try rw [e5])
          (try rw [e5] at hK)
          (try rw [e6])
          (try rw [e6] at hK)
          (try rw [e11])
          (try rw [e11] at hK)
          clear hW
          go_simp
          refine hK.out _ _ rfl ?_
          first | exact trivial | with_reducible rfl | rfl
      case iD =>
        intro f W hF hE
        have r11 := hE 11 (by decide)
        change f 11 = .int .i64 er2 at r11
        have r14 := hE 14 (by decide)
        change f 14 = .int .i64 er2 at r14
        have r0 := hE 0 (by decide)
        change f 0 = .int .i64 day at r0
        have r1 := hE 1 (by decide)
        change f 1 = .int .i64 (day + 1) at r1
        have r2 := hE 2 (by decide)
        change f 2 = .pointer (some ⟨w.heap.size, 1, none⟩) at r2
        have r3 := hE 3 (by decide)
        change f 3 = .int .i64 b at r3
        have r4 := hE 4 (by decide)
        change f 4 = .pointer (some ⟨w.heap.size, 2, none⟩) at r4
        have r5 := hE 5 (by decide)
        change f 5 = .slice p n cap at r5
        have r6 := hE 6 (by decide)
        change f 6 = .func (.func 49) #[] #[.pointer (some ⟨w.heap.size + 1, 0, none⟩)] at r6
        clear hE
        simp only [putF, Act.put, List.setIfInBounds_toArray, List.set_cons_zero, List.set_cons_succ, Nat.reduceAdd, Nat.zero_add]
        (try rw [r11])
        (try rw [r14])
        (try rw [r0])
        (try rw [r1])
        (try rw [r2])
        (try rw [r3])
        (try rw [r4])
        (try rw [r5])
        (try rw [r6])
        obtain ⟨N2, p2, c2, hfN, hNB, hrow, hown, hbb⟩ := hF
        rw [hfN]
        have HNB2 := Lib.hid hNB; have HRW2 := Lib.hid hrow; have HOW2 := Lib.hid hown; have HBB2 := Lib.hid hbb
        clear hfN hNB hrow hown hbb r0 r1 r2 r3 r4 r5 r6 r11 r14
        generalize W = w3 at *
        have HB2 := Lib.hid (HB1.out.trans (HBB1.out.mono HB1.out.size))
        have HB3 := Lib.hid (HB2.out.trans (HBB2.out.mono HB2.out.size))
        have HW1O := Lib.hid ((KeptB.of_below (B := w2.heap.size) (e := 43) (n := 10) HBB2.out).own (by decide) HOW1.out); have HW2O := HOW2
        have HRN1 := Lib.hid ((HBB2.out.block _ (block_lt HRW1.out)).trans HRW1.out); have HRN2 := HRW2
        have HR2 := Lib.hid ((HBB2.out.block _ (block_lt HR2.out)).trans HR2.out); have HR3 := Lib.hid ((HBB2.out.block _ (block_lt HR3.out)).trans HR3.out)
        have HX14 : Hid (N1 ≠ w.heap.size + 1 + 1) := Lib.hid (by have := HSZ.out; have := HNB1.out; omega)
        have HX15 : Hid (N1 ≠ w.heap.size + 1 + 1 + 1) := Lib.hid (by have := HSZ.out; have := HNB1.out; omega)
        have HX24 : Hid (N2 ≠ w.heap.size + 1 + 1) := Lib.hid (by have := HSZ.out; have := HNB2.out; have := HBB1.out.size; omega)
        have HX25 : Hid (N2 ≠ w.heap.size + 1 + 1 + 1) := Lib.hid (by have := HSZ.out; have := HNB2.out; have := HBB1.out.size; omega)
        have HL1 := Lib.hid (show w.heap.size ≤ w1.heap.size from HB1.out.size); have HL2 := Lib.hid (show w.heap.size ≤ w2.heap.size from HB2.out.size)
        clear HB1 HB2 HBB1 HBB2 HOW1 HOW2 HRW1 HRW2 HR0 HR1 HSL HPK HPB HMA HMB HW1 HW2 HNB1 HNB2
        by_cases he : er1 = 0 ∧ er2 = 0
        · obtain ⟨rfl, rfl⟩ := he
          go_upto_region 7 with fail
          refine wp_region_rel (T := fun A B => (A.heap[w.heap.size + 1 + 1]? = some (.cells (C1 (.slice p1 n1 c1)).toArray 43 (0, 0)) → B.heap[w.heap.size + 1 + 1]? = some (.cells (C1 (.slice p1 n1 c1)).toArray 43 (0, 0))) ∧ (A.heap[w.heap.size + 1 + 1 + 1]? = some (.cells (C2 (.slice p2 n2 c2)).toArray 43 (0, 0)) → B.heap[w.heap.size + 1 + 1 + 1]? = some (.cells (C2 (.slice p2 n2 c2)).toArray 43 (0, 0)))) (G := fun W => Below w.heap.size w W ∧ (W.ownsRow w1.heap.size 68 10 (.slice p1 n1 c1) n1 (encL Pst.cells l1)) ∧ (W.ownsRow w2.heap.size 68 10 (.slice p2 n2 c2) n2 (encL Pst.cells l2)) ∧ W.heap[N1]? = some (.cells (C1 (.slice p1 n1 c1)).toArray 43 (0, 0)) ∧ W.heap[N2]? = some (.cells (C2 (.slice p2 n2 c2)).toArray 43 (0, 0)) ∧ (∃ cs : Array Value, cs.size = 10 ∧ W.heap[w.heap.size + 1 + 1]? = some (.cells cs 43 (0, 0))) ∧ ∃ cs : Array Value, cs.size = 10 ∧ W.heap[w.heap.size + 1 + 1 + 1]? = some (.cells cs 43 (0, 0))) (R := fun k => match k with | 0 => fun v _ => v = .agg (C1 (.slice p1 n1 c1)).toArray | 1 => fun v _ => v = .agg (C2 (.slice p2 n2 c2)).toArray | 2 => fun _ W => W.heap[w.heap.size + 1 + 1]? = some (.cells (C1 (.slice p1 n1 c1)).toArray 43 (0, 0)) | 3 => fun _ W => W.heap[w.heap.size + 1 + 1 + 1]? = some (.cells (C2 (.slice p2 n2 c2)).toArray 43 (0, 0)) | 4 => fun v _ => v = .int .i64 0 | _ => fun _ _ => True) (by kernel_rfl) (by kernel_rfl) (by kernel_rfl) ?iT (⟨HB3.out.drew, HW1O.out.drew, HW2O.out.drew, HRN1.out, HRN2.out, ⟨_, rfl, HR2.out⟩, _, rfl, HR3.out⟩) ?iS ?iD
          case iT =>
            intro k v A B hT h
            match k, h with
            | 0, h => exact h
            | 1, h => exact h
            | 2, h => exact hT.1 h
            | 3, h => exact hT.2 h
            | 4, h => exact h
            | _ + 5, h => exact trivial
          case iS =>
            refine ⟨?s0, ?s1, ?s2, ?s3, ?s4, trivial⟩
            case s0 =>
              intro f W hG hW K hK
              try dsimp only at hG
              simp only [putF, Act.put, List.setIfInBounds_toArray, List.set_cons_zero, List.set_cons_succ, Nat.reduceAdd, Nat.zero_add] at hK ⊢
              obtain ⟨hGB, hO1, hO2, hN1, hN2, ⟨cs4, hc4, h4⟩, cs5, hc5, h5⟩ := hG
              have hG : Below w.heap.size w W ∧ (W.ownsRow w1.heap.size 68 10 (.slice p1 n1 c1) n1 (encL Pst.cells l1)) ∧ (W.ownsRow w2.heap.size 68 10 (.slice p2 n2 c2) n2 (encL Pst.cells l2)) ∧ W.heap[N1]? = some (.cells (C1 (.slice p1 n1 c1)).toArray 43 (0, 0)) ∧ W.heap[N2]? = some (.cells (C2 (.slice p2 n2 c2)).toArray 43 (0, 0)) ∧ (∃ cs : Array Value, cs.size = 10 ∧ W.heap[w.heap.size + 1 + 1]? = some (.cells cs 43 (0, 0))) ∧ ∃ cs : Array Value, cs.size = 10 ∧ W.heap[w.heap.size + 1 + 1 + 1]? = some (.cells cs 43 (0, 0)) := ⟨hGB, hO1, hO2, hN1, hN2, ⟨cs4, hc4, h4⟩, cs5, hc5, h5⟩
              obtain ⟨f1, f2⟩ := row_loJ hN1 (HC1.out _)
              clear hW
              go_simp
              refine hK.out _ _ ⟨id, id⟩ hG ?_
              first | with_reducible rfl | rfl
            case s1 =>
              intro f W hG hW K hK
              try dsimp only at hG
              simp only [putF, Act.put, List.setIfInBounds_toArray, List.set_cons_zero, List.set_cons_succ, Nat.reduceAdd, Nat.zero_add] at hK ⊢
              obtain ⟨hGB, hO1, hO2, hN1, hN2, ⟨cs4, hc4, h4⟩, cs5, hc5, h5⟩ := hG
              have hG : Below w.heap.size w W ∧ (W.ownsRow w1.heap.size 68 10 (.slice p1 n1 c1) n1 (encL Pst.cells l1)) ∧ (W.ownsRow w2.heap.size 68 10 (.slice p2 n2 c2) n2 (encL Pst.cells l2)) ∧ W.heap[N1]? = some (.cells (C1 (.slice p1 n1 c1)).toArray 43 (0, 0)) ∧ W.heap[N2]? = some (.cells (C2 (.slice p2 n2 c2)).toArray 43 (0, 0)) ∧ (∃ cs : Array Value, cs.size = 10 ∧ W.heap[w.heap.size + 1 + 1]? = some (.cells cs 43 (0, 0))) ∧ ∃ cs : Array Value, cs.size = 10 ∧ W.heap[w.heap.size + 1 + 1 + 1]? = some (.cells cs 43 (0, 0)) := ⟨hGB, hO1, hO2, hN1, hN2, ⟨cs4, hc4, h4⟩, cs5, hc5, h5⟩
              obtain ⟨f1, f2⟩ := row_loJ hN2 (HC2.out _)
              clear hW
              go_simp
              refine hK.out _ _ ⟨id, id⟩ hG ?_
              first | with_reducible rfl | rfl
            case s2 =>
              intro f W hG hW K hK
              try dsimp only at hG
              have e0 := hW 0 (by kernel_rfl)
              change f 0 = .agg (C1 (.slice p1 n1 c1)).toArray at e0
              simp only [putF, Act.put, List.setIfInBounds_toArray, List.set_cons_zero, List.set_cons_succ, Nat.reduceAdd, Nat.zero_add] at hK ⊢
              (try rw [e0])
              (try rw [e0] at hK)
              have HX1 := HX14.out; have HX2 := HX24.out
              obtain ⟨hGB, hO1, hO2, hN1, hN2, ⟨cs4, hc4, h4⟩, cs5, hc5, h5⟩ := hG
              have hG : Below w.heap.size w W ∧ (W.ownsRow w1.heap.size 68 10 (.slice p1 n1 c1) n1 (encL Pst.cells l1)) ∧ (W.ownsRow w2.heap.size 68 10 (.slice p2 n2 c2) n2 (encL Pst.cells l2)) ∧ W.heap[N1]? = some (.cells (C1 (.slice p1 n1 c1)).toArray 43 (0, 0)) ∧ W.heap[N2]? = some (.cells (C2 (.slice p2 n2 c2)).toArray 43 (0, 0)) ∧ (∃ cs : Array Value, cs.size = 10 ∧ W.heap[w.heap.size + 1 + 1]? = some (.cells cs 43 (0, 0))) ∧ ∃ cs : Array Value, cs.size = 10 ∧ W.heap[w.heap.size + 1 + 1 + 1]? = some (.cells cs 43 (0, 0)) := ⟨hGB, hO1, hO2, hN1, hN2, ⟨cs4, hc4, h4⟩, cs5, hc5, h5⟩
              have th := there_row10 h4 hc4
              have hcl := HC1.out (.slice p1 n1 c1)
              have hco := HO1.out p1 n1 c1
              have hst := KeptB.store (B := w.heap.size) h4 hc4 (by omega) (C1 (.slice p1 n1 c1)) hcl
              have ho := (Only.refl (w.heap.size + 1 + 1) W).setCells 0 (C1 (.slice p1 n1 c1))
              clear hW
              go_simp
              refine hK.out undef _ ⟨fun _ => hst.2, fun h => (ho.block _ (block_lt h5) (by omega)).trans h⟩ ⟨KeptB.below hGB hGB.size hst.1, hst.1.own (by decide) hO1, hst.1.own (by decide) hO2, (ho.block N1 (block_lt hN1) HX1).trans hN1, (ho.block N2 (block_lt hN2) HX2).trans hN2, ⟨_, by simpa using hcl, hst.2⟩, cs5, hc5, (ho.block _ (block_lt h5) (by omega)).trans h5⟩ ?_
              exact hst.2
            case s3 =>
              intro f W hG hW K hK
              try dsimp only at hG
              have e0 := hW 0 (by kernel_rfl)
              change f 0 = .agg (C1 (.slice p1 n1 c1)).toArray at e0
              have e1 := hW 1 (by kernel_rfl)
              change f 1 = .agg (C2 (.slice p2 n2 c2)).toArray at e1
              have e2 := hW 2 (by kernel_rfl)
              try dsimp only at e2
              simp only [putF, Act.put, List.setIfInBounds_toArray, List.set_cons_zero, List.set_cons_succ, Nat.reduceAdd, Nat.zero_add] at hK ⊢
              (try rw [e0])
              (try rw [e0] at hK)
              (try rw [e1])
              (try rw [e1] at hK)
              have HX1 := HX15.out; have HX2 := HX25.out
              obtain ⟨hGB, hO1, hO2, hN1, hN2, ⟨cs4, hc4, h4⟩, cs5, hc5, h5⟩ := hG
              have hG : Below w.heap.size w W ∧ (W.ownsRow w1.heap.size 68 10 (.slice p1 n1 c1) n1 (encL Pst.cells l1)) ∧ (W.ownsRow w2.heap.size 68 10 (.slice p2 n2 c2) n2 (encL Pst.cells l2)) ∧ W.heap[N1]? = some (.cells (C1 (.slice p1 n1 c1)).toArray 43 (0, 0)) ∧ W.heap[N2]? = some (.cells (C2 (.slice p2 n2 c2)).toArray 43 (0, 0)) ∧ (∃ cs : Array Value, cs.size = 10 ∧ W.heap[w.heap.size + 1 + 1]? = some (.cells cs 43 (0, 0))) ∧ ∃ cs : Array Value, cs.size = 10 ∧ W.heap[w.heap.size + 1 + 1 + 1]? = some (.cells cs 43 (0, 0)) := ⟨hGB, hO1, hO2, hN1, hN2, ⟨cs4, hc4, h4⟩, cs5, hc5, h5⟩
              have th := there_row10 h5 hc5
              have hcl := HC2.out (.slice p2 n2 c2)
              have hco := HO2.out p2 n2 c2
              have hst := KeptB.store (B := w.heap.size) h5 hc5 (by omega) (C2 (.slice p2 n2 c2)) hcl
              have ho := (Only.refl (w.heap.size + 1 + 1 + 1) W).setCells 0 (C2 (.slice p2 n2 c2))
              clear hW
              go_simp
              refine hK.out undef _ ⟨fun h => (ho.block _ (block_lt h4) (by omega)).trans h, fun _ => hst.2⟩ ⟨KeptB.below hGB hGB.size hst.1, hst.1.own (by decide) hO1, hst.1.own (by decide) hO2, (ho.block N1 (block_lt hN1) HX1).trans hN1, (ho.block N2 (block_lt hN2) HX2).trans hN2, ⟨cs4, hc4, (ho.block _ (block_lt h4) (by omega)).trans h4⟩, _, by simpa using hcl, hst.2⟩ ?_
              exact hst.2
            case s4 =>
              intro f W hG hW K hK
              try dsimp only at hG
              have e0 := hW 0 (by kernel_rfl)
              change f 0 = .agg (C1 (.slice p1 n1 c1)).toArray at e0
              have e1 := hW 1 (by kernel_rfl)
              change f 1 = .agg (C2 (.slice p2 n2 c2)).toArray at e1
              have e2 := hW 2 (by kernel_rfl)
              try dsimp only at e2
              have e3 := hW 3 (by kernel_rfl)
              try dsimp only at e3
              simp only [putF, Act.put, List.setIfInBounds_toArray, List.set_cons_zero, List.set_cons_succ, Nat.reduceAdd, Nat.zero_add] at hK ⊢
              (try rw [e0])
              (try rw [e0] at hK)
              (try rw [e1])
              (try rw [e1] at hK)
              clear hW
              go_simp
              refine hK.out _ _ ⟨id, id⟩ hG ?_
              first | exact trivial | with_reducible rfl | rfl
          case iD =>
            intro f W hG hR
            try dsimp only at hG
            have r0 := hR 0 (by decide)
            change f 0 = .agg (C1 (.slice p1 n1 c1)).toArray at r0
            have r1 := hR 1 (by decide)
            change f 1 = .agg (C2 (.slice p2 n2 c2)).toArray at r1
            have r2 := hR 2 (by decide)
            try dsimp only at r2
            have r3 := hR 3 (by decide)
            try dsimp only at r3
            have r4 := hR 4 (by decide)
            change f 4 = .int .i64 0 at r4
            clear hR
            simp only [putF, Act.put, List.setIfInBounds_toArray, List.set_cons_zero, List.set_cons_succ, Nat.reduceAdd, Nat.zero_add]
            (try rw [r0])
            (try rw [r1])
            (try rw [r4])
            obtain ⟨hGB, hO1, hO2, -⟩ := hG
            have HGB := Lib.hid hGB; rw [← HN1.out] at hO1; rw [← HN2.out] at hO2; have HP1 := Lib.hid (LS.of_own hO1 Pst.cells_length (by decide)); have HP2 := Lib.hid (LS.of_own hO2 Pst.cells_length (by decide)); rw [HN1.out] at HP1; rw [HN2.out] at HP2; have HQ4 := Lib.hid r2; have HQ5 := Lib.hid r3
            clear hGB hO1 hO2 r0 r1 r2 r3 r4
            go_wp2_with fail
            refine bodyPost_ret (results_two rfl _ _ (w.heap.size + 1 + 1) (w.heap.size + 1 + 1 + 1) rfl rfl (loadRp HQ4.out (by simpa using HC1.out _)) (loadRp HQ5.out (by simpa using HC2.out _))) rfl ?_
            exact HOK.out _ _ _ ⟨trivial, HD1.out, HD2.out⟩ (by trivial) (by trivial) HP1.out HP2.out HGB.out
        · have HNE := Lib.hid he
          have HV : Hid (er1 ≠ 0 ∨ (er1 = 0 ∧ er2 ≠ 0)) := Lib.hid (by by_cases h : er1 = 0; exact .inr ⟨h, fun h2 => he ⟨h, h2⟩⟩; exact .inl h)
          clear he HRN1 HRN2 HW1O HW2O HX14 HX15 HX24 HX25
          have th2 := there_row10 HR2.out rfl
          have th3 := there_row10 HR3.out rfl
          rcases HV.out with h1 | ⟨rfl, h1⟩
          all_goals
            go_wp2
            have hq2 := setCells_rowA (cs := [.int .i64 0, .int .i64 0, .slice none 0 0, .int .i64 0, .int .i64 0, .int .i64 0, .int .i64 0, .int .i64 0, .int .i64 0, .int .i64 0]) HR2.out rfl
            have hq3 := (((Only.refl (w.heap.size + 1 + 1) w3).setCells 0 [.int .i64 0, .int .i64 0, .slice none 0 0, .int .i64 0, .int .i64 0, .int .i64 0, .int .i64 0, .int .i64 0, .int .i64 0, .int .i64 0]).block (w.heap.size + 1 + 1 + 1) (block_lt HR3.out) (by omega)).trans HR3.out
            have hq4 := setCells_rowA (cs := [.int .i64 0, .int .i64 0, .slice none 0 0, .int .i64 0, .int .i64 0, .int .i64 0, .int .i64 0, .int .i64 0, .int .i64 0, .int .i64 0]) hq3 rfl
            have hq5 := (((Only.refl (w.heap.size + 1 + 1 + 1) (w3.setCells (w.heap.size + 1 + 1) 0 [.int .i64 0, .int .i64 0, .slice none 0 0, .int .i64 0, .int .i64 0, .int .i64 0, .int .i64 0, .int .i64 0, .int .i64 0, .int .i64 0])).setCells 0 [.int .i64 0, .int .i64 0, .slice none 0 0, .int .i64 0, .int .i64 0, .int .i64 0, .int .i64 0, .int .i64 0, .int .i64 0, .int .i64 0]).block (w.heap.size + 1 + 1) (block_lt hq2) (by omega)).trans hq2
            refine bodyPost_ret (results_two rfl _ _ (w.heap.size + 1 + 1) (w.heap.size + 1 + 1 + 1) rfl rfl (loadRp hq5 rfl) (loadRp hq4 rfl)) rfl ?_
            exact HER.out _ ⟨trivial, HD1.out, HD2.out⟩ HNE.out (Only.below (Only.below HB3.out (by omega) HB3.out.size ((Only.refl _ _).setCells 0 _)) (by omega) (Nat.le_trans HB3.out.size ((Only.refl (w.heap.size + 1 + 1) w3).setCells 0 _).size) ((Only.refl _ _).setCells 0 _))
  · have HNG := Lib.hid hgd
    have HV : Hid (ba = false ∨ (ba = true ∧ day < a) ∨ (ba = true ∧ a ≤ day ∧ b ≤ day)) := Lib.hid (by cases ba <;> simp_all <;> omega)
    clear hgd
    have th2 := there_row10 HR2.out rfl
    have th3 := there_row10 HR3.out rfl
    rcases HV.out with rfl | ⟨rfl, h1⟩ | ⟨rfl, h1, h2⟩
    all_goals
      go_wp2
      have hq2 := setCells_rowA (cs := [.int .i64 0, .int .i64 0, .slice none 0 0, .int .i64 0, .int .i64 0, .int .i64 0, .int .i64 0, .int .i64 0, .int .i64 0, .int .i64 0]) HR2.out rfl
      have hq3 := (((Only.refl (w.heap.size + 1 + 1) w1).setCells 0 [.int .i64 0, .int .i64 0, .slice none 0 0, .int .i64 0, .int .i64 0, .int .i64 0, .int .i64 0, .int .i64 0, .int .i64 0, .int .i64 0]).block (w.heap.size + 1 + 1 + 1) (block_lt HR3.out) (by omega)).trans HR3.out
      have hq4 := setCells_rowA (cs := [.int .i64 0, .int .i64 0, .slice none 0 0, .int .i64 0, .int .i64 0, .int .i64 0, .int .i64 0, .int .i64 0, .int .i64 0, .int .i64 0]) hq3 rfl
      have hq5 := (((Only.refl (w.heap.size + 1 + 1 + 1) (w1.setCells (w.heap.size + 1 + 1) 0 [.int .i64 0, .int .i64 0, .slice none 0 0, .int .i64 0, .int .i64 0, .int .i64 0, .int .i64 0, .int .i64 0, .int .i64 0, .int .i64 0])).setCells 0 [.int .i64 0, .int .i64 0, .slice none 0 0, .int .i64 0, .int .i64 0, .int .i64 0, .int .i64 0, .int .i64 0, .int .i64 0, .int .i64 0]).block (w.heap.size + 1 + 1) (block_lt hq2) (by omega)).trans hq2
      refine bodyPost_ret (results_two rfl _ _ (w.heap.size + 1 + 1) (w.heap.size + 1 + 1 + 1) rfl rfl (loadRp hq5 rfl) (loadRp hq4 rfl)) rfl ?_
      exact HWR.out _ HNG.out (Only.below (Only.below HB1.out (by omega) HB1.out.size ((Only.refl _ _).setCells 0 _)) (by omega) (Nat.le_trans HB1.out.size ((Only.refl (w.heap.size + 1 + 1) w1).setCells 0 _).size) ((Only.refl _ _).setCells 0 _))
end Go.Proofs.Ytajpggnmhkpbkaa
