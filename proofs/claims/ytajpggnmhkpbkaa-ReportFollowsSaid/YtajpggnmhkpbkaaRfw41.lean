/- slices.Insert of one posting ahead of another one, where there is no room; all of it together. Plain law: rows put one by one into rows in order. -/
import Derived.Test.YtajpggnmhkpbkaaRfw40
import Derived.Test.YtajpggnmhkpbkaaRfw39

section
set_option linter.unusedVariables false
set_option linter.unusedSimpArgs false
namespace Go.Proofs.Ytajpggnmhkpbkaa
open Go.RowKit

theorem ins_cells2 (x : Pst) (l : List Pst) (i G : Nat) (hi : i ≤ l.length) (ROW : Array Value) (htk : ROW.toList.take (i * 10) = encL Pst.cells (l.take i)) (hsz : ROW.size = G * 10) (hG : l.length + 1 ≤ G) :
    ∀ cur1 cur2 : Array Value, cur1 = (ROW.toList.take (i * 10) ++ x.cells ++ ROW.toList.drop (i * 10 + x.cells.length)).toArray →
      cur2 = (cur1.toList.take ((i + 1) * 10) ++ encL Pst.cells (l.drop i) ++ cur1.toList.drop ((i + 1) * 10 + (encL Pst.cells (l.drop i)).length)).toArray →
      cur1.size = G * 10 ∧ cur2.size = G * 10 ∧ cur2.toList.take ((l.length + 1) * 10) = encL Pst.cells (l.take i ++ x :: l.drop i) := by
  intro cur1 cur2 h1 h2
  have hd : (encL Pst.cells (l.drop i)).length = (l.length - i) * 10 := by rw [encL_length Pst.cells_length, List.length_drop]
  have ht : (encL Pst.cells (l.take i)).length = i * 10 := by rw [encL_length Pst.cells_length, List.length_take, Nat.min_eq_left hi]
  have hx := Pst.cells_length x
  have hcl : ROW.toList.length = G * 10 := by simpa using hsz
  have e1 : cur1.toList = ROW.toList.take (i * 10) ++ x.cells ++ ROW.toList.drop (i * 10 + x.cells.length) := by rw [h1]
  have s1 : cur1.toList.length = G * 10 := by
    rw [e1]
    simp only [List.length_append, List.length_take, List.length_drop, hx, hcl]
    omega
  have e2 : cur2.toList = cur1.toList.take ((i + 1) * 10) ++ encL Pst.cells (l.drop i) ++ cur1.toList.drop ((i + 1) * 10 + (encL Pst.cells (l.drop i)).length) := by rw [h2]
  have s2 : cur2.toList.length = G * 10 := by
    rw [e2]
    simp only [List.length_append, List.length_take, List.length_drop, hd, s1]
    omega
  refine ⟨by simpa using s1, by simpa using s2, ?_⟩
  have hA : cur1.toList.take ((i + 1) * 10) = encL Pst.cells (l.take i) ++ x.cells := by
    rw [e1, htk, List.take_append_of_le_length (by simp only [List.length_append, ht, hx]; omega), List.take_of_length_le (by simp only [List.length_append, ht, hx]; omega)]
  rw [e2, hA, List.take_append_of_le_length (by
    simp only [List.length_append, ht, hx, hd]
    omega), List.take_of_length_le (by
    simp only [List.length_append, ht, hx, hd]
    omega)]
  rw [encL_append]
  show _ = encL Pst.cells (l.take i) ++ (x.cells ++ encL Pst.cells (l.drop i))
  rw [List.append_assoc]
theorem zeroCells_size (z : Array Value) (k : Nat) : (Builtin.zeroCells z k).size = k * z.size := by simp [Builtin.zeroCells]

set_option maxRecDepth 8000 in
set_option maxHeartbeats 4000000 in
theorem insGrow_any (x : Pst) (l : List Pst) (base gx g cap i n : Nat) (cur : Array Value) (w : World) (hi : i < n) (hnl : n = l.length) (hnc : n ≤ cap) (hroom : cap < n + 1) (hg : w.heap[g]? = some (.cells cur 68 (0, 0))) (hcs : cur.size = cap * 10) (htk : cur.toList.take (n * 10) = encL Pst.cells l) (hbg : base ≤ w.heap.size) (hx : w.heap[gx]? = some (.cells x.cells.toArray 68 (0, 0))) (hn : n ≤ 1000000) (h1l : ∀ v ∈ encL Pst.cells l, v.oneCell' = true) :
    Calls Try.prog 47 #[.slice (some ⟨g, 0, none⟩) n cap, .int .i64 i, .slice (some ⟨gx, 0, none⟩) 1 1] w
      fun e w' => ∃ v', e = .returned v' ∧ w'.ownsRow base 68 10 v' (n + 1) (encL Pst.cells (l.take i ++ x :: l.drop i)) ∧ w.grownBy w' (some g) := by
  have hu : Try.prog.underlying 38 = some (.slice 68) := by kernel_rfl
  have hui : Try.prog.underlying 3 = some (.int .i64) := by kernel_rfl
  have hs10 : (Try.prog.info? 68).map (·.size) = some 10 := by kernel_rfl
  obtain ⟨i0, z0, hi0, hi1, hi2, hi3, hi4⟩ := elemP.info
  have hgw : g < w.heap.size := block_lt hg
  have hxw : gx < w.heap.size := block_lt hx
  have htl : (encL Pst.cells (l.take i)).length = i * 10 := by rw [encL_length Pst.cells_length, List.length_take, Nat.min_eq_left (by omega)]
  have hcell : ∀ W : World, (∀ k, k < w.heap.size → W.heap[k]? = w.heap[k]?) → ∀ j v, (encL Pst.cells l)[j]? = some v → W.cell? ⟨g, j, none⟩ = some v := fun W hW j v hj => by
    have hjl : j < n * 10 := by rw [hnl, ← encL_length Pst.cells_length]; exact (List.getElem?_eq_some_iff.1 hj).1
    rw [cell_of_row W g _ cur _ _ ((hW g hgw).trans hg)]
    have e : cur.toList[j]? = (encL Pst.cells l)[j]? := by rw [← htk, List.getElem?_take_of_lt hjl]
    rw [← hj, ← e]
    simp
  have hold : (Builtin.firstCells i0.size i (.slice (some ⟨g, 0, none⟩) i cap)).run Try.prog w.drew = .ok (encL Pst.cells (l.take i)).toArray w.drew := by
    rw [hi2]
    refine run_firstCells_some w.drew 10 i ⟨g, 0, none⟩ i cap _ htl (fun j v hj => ?_)
    rw [Addr.add_lit, Nat.zero_add]
    refine hcell w.drew (fun _ _ => rfl) j v ?_
    rw [← encL_take Pst.cells_length, List.getElem?_take] at hj
    split at hj
    · exact hj
    · cases hj
  have hnb : n + 1 ≤ 1000001 := by omega
  have hrz : ∀ ty, (Builtin.append_ #[38, 3] ty #[.slice (some ⟨g, 0, none⟩) i cap, .int .i64 ((n + 1 - i : Nat) : Int)]).run Try.prog w =
      .ok (.slice (some ⟨w.heap.size, 0, none⟩) (n + 1) (grownCap w (n + 1) cap 68)) (w.drew.alloc (.cells ((encL Pst.cells (l.take i)).toArray ++ Builtin.zeroCells z0.cells (n + 1 - i) ++ Builtin.zeroCells z0.cells (grownCap w (n + 1) cap 68 - (n + 1))) 68)) := fun ty => by
    have h := Lib.run_append_grow_zeros w 38 3 ty 68 i0 z0 .i64 .i64 hu hui hi0 hi1 (some ⟨g, 0, none⟩) i cap _ hold (n + 1 - i) (by omega) (by omega) (by omega) (by omega) (by rw [hi3]; omega) (by
      rw [show i + (n + 1 - i) = n + 1 from by omega, hi3]
      exact growslice_fits hroom (by omega))
    rw [show i + (n + 1 - i) = n + 1 from by omega] at h
    exact h
  obtain ⟨G, hG⟩ : ∃ G, G = grownCap w (n + 1) cap 68 := ⟨_, rfl⟩
  have hGn : n + 1 ≤ G := by rw [hG]; exact grownCap_ge w _ _ _
  have hGm : G ≤ maxLen := by rw [hG]; exact grownCap_le_maxLen w (n + 1) cap 68 (by unfold maxLen; omega)
  rw [← hG] at hrz
  obtain ⟨ROW, hROW⟩ : ∃ ROW : Array Value, ROW = (encL Pst.cells (l.take i)).toArray ++ Builtin.zeroCells z0.cells (n + 1 - i) ++ Builtin.zeroCells z0.cells (G - (n + 1)) := ⟨_, rfl⟩
  rw [← hROW] at hrz
  have hRs : ROW.size = G * 10 := by
    rw [hROW, Array.size_append, Array.size_append, zeroCells_size, zeroCells_size, hi4, List.size_toArray, htl]
    omega
  have hRt : ROW.toList.take (i * 10) = encL Pst.cells (l.take i) := by
    rw [hROW]
    simp only [Array.toList_append, List.append_assoc]
    rw [List.take_append_of_le_length (by rw [htl]; exact Nat.le_refl _), List.take_of_length_le (by rw [htl]; exact Nat.le_refl _)]
  have hdl : (encL Pst.cells (l.drop i)).length = (n - i) * 10 := by rw [encL_length Pst.cells_length, List.length_drop, hnl]
  obtain ⟨cur1, h1⟩ : ∃ c : Array Value, c = (ROW.toList.take (i * 10) ++ x.cells ++ ROW.toList.drop (i * 10 + x.cells.length)).toArray := ⟨_, rfl⟩
  obtain ⟨cur2, h2⟩ : ∃ c : Array Value, c = (cur1.toList.take ((i + 1) * 10) ++ encL Pst.cells (l.drop i) ++ cur1.toList.drop ((i + 1) * 10 + (encL Pst.cells (l.drop i)).length)).toArray := ⟨_, rfl⟩
  obtain ⟨sz1, sz2, htk2⟩ := ins_cells2 x l i G (by omega) ROW hRt hRs (by omega) cur1 cur2 h1 h2
  obtain ⟨W1, hW1⟩ : ∃ W1, W1 = w.drew.alloc (.cells ROW 68) := ⟨_, rfl⟩
  have hN1 : W1.heap[w.heap.size]? = some (.cells ROW 68 (0, 0)) := by rw [hW1]; exact new_rowW w.drew _ _ rfl
  have hO1 : ∀ k, k < w.heap.size → W1.heap[k]? = w.heap[k]? := fun k hk => by rw [hW1]; exact ((Below.refl w.heap.size w.drew).alloc (Nat.le_refl _) _).block k hk
  rw [← hW1] at hrz
  have hcpA : ∀ ty dc, (Builtin.copy_ #[38, 38] ty #[.slice (some ⟨w.heap.size, i * 10, none⟩) (n + 1 - i) dc, .slice (some ⟨gx, 0, none⟩) 1 1]).run Try.prog W1 = .ok (goInt 1) (W1.setRow w.heap.size cur1) := fun ty dc => by
    rw [h1]
    refine run_copy_rowN W1 _ _ ty 68 10 w.heap.size _ _ _ ⟨gx, 0, none⟩ _ _ 1 ROW 68 x.cells hu hs10 hN1 ?_ (by rw [Pst.cells_length]) ?_ ?_ ?_
    · simp only [Nat.min_def]; split <;> omega
    · intro j v hj
      rw [Addr.add_lit, cell_of_row _ gx _ _ _ _ ((hO1 gx hxw).trans hx), Nat.zero_add]
      simpa using hj
    · rw [Pst.cells_length, hRs]; omega
    · intro v hv
      exact elemP.one x v hv
  obtain ⟨W2, hW2⟩ : ∃ W2, W2 = W1.setRow w.heap.size cur1 := ⟨_, rfl⟩
  have hN2 : W2.heap[w.heap.size]? = some (.cells cur1 68 (0, 0)) := by rw [hW2]; exact setRow_heap _ _ ROW _ _ _ hN1
  have hO2 : ∀ k, k < w.heap.size → W2.heap[k]? = w.heap[k]? := fun k hk => by rw [hW2, setRow_far _ _ _ _ (by omega)]; exact hO1 k hk
  rw [← hW2] at hcpA
  have hcpB : ∀ ty dc, (Builtin.copy_ #[38, 38] ty #[.slice (some ⟨w.heap.size, (i + 1) * 10, none⟩) (n + 1 - (i + 1)) dc, .slice (some ⟨g, i * 10, none⟩) (n - i) (cap - i)]).run Try.prog W2.drew = .ok (goInt ((n - i : Nat) : Int)) (W2.drew.setRow w.heap.size cur2) := fun ty dc => by
    rw [h2]
    refine run_copy_rowN W2.drew _ _ ty 68 10 w.heap.size _ _ _ ⟨g, i * 10, none⟩ _ _ (n - i) cur1 68 (encL Pst.cells (l.drop i)) hu hs10 hN2 ?_ hdl ?_ ?_ ?_
    · simp only [Nat.min_def]; split <;> omega
    · intro j v hj
      rw [Addr.add_lit]
      refine hcell W2.drew hO2 (i * 10 + j) v ?_
      rw [← encL_dropR Pst.cells_length l i (by omega), List.getElem?_drop] at hj
      exact hj
    · rw [hdl, sz1]; omega
    · intro v hv
      refine h1l v ?_
      rw [← encL_dropR Pst.cells_length l i (by omega)] at hv
      exact List.mem_of_mem_drop hv
  have hzW : W2.heap.size = w.heap.size + 1 := by rw [hW2, setRow_size, hW1, World.size_alloc]; rfl
  have HFIN : Hid ((W2.drew.setRow w.heap.size cur2).ownsRow base 68 10 (.slice (some ⟨w.heap.size, 0, none⟩) (n + 1) G) (n + 1) (encL Pst.cells (l.take i ++ x :: l.drop i)) ∧ w.grownBy (W2.drew.setRow w.heap.size cur2) (some g)) := Lib.hid (by
    have hg2 : (W2.drew.setRow w.heap.size cur2).heap[w.heap.size]? = some (.cells cur2 68 (0, 0)) := setRow_heap _ _ cur1 _ _ _ hN2
    refine ⟨⟨?_, .inr ⟨w.heap.size, G, cur2, rfl, hbg, hg2, hGn, hGm, sz2, by rw [hnl]; exact htk2⟩⟩, ?_⟩
    · rw [encL_length Pst.cells_length, List.length_append, List.length_cons, List.length_take, List.length_drop]
      omega
    · refine ⟨by rw [hW2, hW1]; rfl, by rw [hW2, hW1]; rfl, by rw [hW2, hW1]; rfl, by rw [setRow_size]; show _ ≤ W2.heap.size; omega, fun k hk _ => ?_⟩
      rw [setRow_far _ _ _ _ (by omega)]
      exact hO2 k hk)
  have mixed : Try.prog.follows .mixedOrders = true := by kernel_rfl
  obtain ⟨i1, hii⟩ : ∃ i1, i1 = i + 1 := ⟨_, rfl⟩
  obtain ⟨n1, hn1⟩ : ∃ n1, n1 = n + 1 := ⟨_, rfl⟩
  obtain ⟨k1, hk1⟩ : ∃ k1, k1 = n + 1 - i := ⟨_, rfl⟩
  have hGc : G ≤ 9223372036854775807 := by unfold maxLen at hGm; omega
  have hwi : IntKind.i64.wrap ((i : Int) + 1) = (i1 : Int) := by rw [IntKind.wrap_i64]; omega
  have hwn : IntKind.i64.wrap ((n : Int) + 1) = (n1 : Int) := by rw [IntKind.wrap_i64]; omega
  have hwk : IntKind.i64.wrap ((n1 : Int) - (i : Int)) = (k1 : Int) := by rw [IntKind.wrap_i64]; omega
  have hc1 : ¬ cap = i := by omega
  have hc2 : ¬ G = i + 1 := by omega
  have hc3 : ¬ G = i := by omega
  have hsl1 := fun W => run_tailP g 0 n cap i (by omega) hnc W
  have hsl2 := fun W => run_headP (some ⟨g, 0, none⟩) n cap i (by omega) W
  have hsl3 := fun W => run_tailP w.heap.size 0 (n + 1) G i (by omega) hGn W
  have hsl4 := fun W => run_tailP w.heap.size 0 (n + 1) G (i + 1) (by omega) hGn W
  simp only [if_neg hc1, if_neg hc2, if_neg hc3, Nat.zero_add] at hsl1 hsl3 hsl4
  have hz2 : ((i : Int) == (n : Int)) = false := beq_eq_false_iff_ne.2 (by omega)
  rw [← hii] at hsl4 hcpB
  rw [← hn1] at hsl3 hsl4 hcpA hcpB HFIN hrz
  rw [show n1 - i = k1 by omega] at hrz
  have hr1 : (cap : Int) < (n1 : Int) := by omega
  have HI1 := Lib.hid hii; have HN1 := Lib.hid hn1; have HK1 := Lib.hid hk1
  have HNL := Lib.hid hnl
  clear hnl h1 h2 hN1 hN2 hO1 hO2 sz1 sz2 htk2 h1l htk hg hx hdl hold hcell hRs hRt hROW hG htl hii hn1 hk1 hroom hGn hGm hW1 hW2 hi0 hi1 hi2 hi3 hi4
  go_enter Try.func47, Try.ntmps47
  go_wp2_with (first
    | (at_builtin; refine Lib.wpList_append_run _ rfl _ _ _ _ rfl _ _ rfl rfl _ _ (hrz _) ?_)
    | (at_builtin; refine wpList_copy_runJ _ rfl _ _ 38 38 rfl _ _ rfl rfl (hcpA _ _) ?_))
  go_region_law_o (refine step_copy_runJ rfl _ _ 38 38 rfl _ _ (by simp [Act.eval, Act.put]) (by simp [Act.eval, Act.put]) (hcpB _ _) ?_)
  go_wp2
  go_ret
  refine ⟨_, rfl, ?_, HFIN.out.2⟩
  rw [← HN1.out]
  exact HFIN.out.1

/-- one posting put into an own row at a place -/
theorem insert_any (x : Pst) (l : List Pst) (base gx i : Nat) (v : Value) (n : Nat) (w : World) (ho : w.ownsRow base 68 10 v n (encL Pst.cells l)) (hx : w.heap[gx]? = some (.cells x.cells.toArray 68 (0, 0))) (hne : ∀ b, v.ownBlock = some b → gx ≠ b) (hb : base ≤ w.heap.size) (hi : i ≤ n) (hn : n ≤ 1000000) :
    Calls Try.prog 47 #[v, .int .i64 i, .slice (some ⟨gx, 0, none⟩) 1 1] w
      fun e w' => ∃ v', e = .returned v' ∧ w'.ownsRow base 68 10 v' (n + 1) (encL Pst.cells (l.take i ++ x :: l.drop i)) ∧ Below base w w' := by
  have hnl : n = l.length := (recs_cases ho Pst.cells_length (by decide)).1
  have hbase := fun b hb => (recs_base ho (b := b) hb).1
  by_cases hin : i = n
  · subst hin
    refine (insEnd_any x l base gx v i w ho hx hb hn).mono ?_
    rintro e w' ⟨v', rfl, h1, h2⟩
    rw [hnl, List.take_length, List.drop_length, ← hnl]
    exact ⟨v', rfl, h1, (Below.refl base w).grown h2 hb (fun k hk => hbase k hk)⟩
  · obtain ⟨hlen, ⟨rfl, h0⟩ | ⟨g, cap, cur, rfl, hbg, hh, hnc, hcm, hcs, htk⟩⟩ := ho
    · omega
    · have h1l : ∀ u ∈ encL Pst.cells l, u.oneCell' = true := fun u hu => by
        obtain ⟨y, _, hy⟩ := List.mem_flatMap.1 hu
        exact elemP.one y u hy
      by_cases hroom : n + 1 ≤ cap
      · refine (insMid_any x l base gx g cap i n cur w (by omega) hnl hroom (by unfold maxLen at hcm; exact hcm) hh hcs htk hbg hx (hne g rfl) hn h1l).mono ?_
        rintro e w' ⟨v', rfl, h1, h2⟩
        exact ⟨v', rfl, h1, (Below.refl base w).grown h2 hb (fun k hk => by injection hk with hk; omega)⟩
      · refine (insGrow_any x l base gx g cap i n cur w (by omega) hnl hnc (by omega) hh hcs htk hb hx hn h1l).mono ?_
        rintro e w' ⟨v', rfl, h1, h2⟩
        exact ⟨v', rfl, h1, (Below.refl base w).grown h2 hb (fun k hk => by injection hk with hk; omega)⟩
end Go.Proofs.Ytajpggnmhkpbkaa
end

section
set_option linter.unusedVariables false
namespace Go.Proofs.Ytajpggnmhkpbkaa
namespace Rep
/-- in order, no two of one key -/
def Str (s : List Pst) : Prop := s.Pairwise (fun x y => keyP x < keyP y)
theorem Str.up {s : List Pst} (h : Str s) : Srt.Up keyP s := List.Pairwise.imp (fun h => Int.le_of_lt h) h
theorem Str.at {s : List Pst} (h : Str s) {i j : Nat} {x y : Pst} (hij : i < j) (hx : s[i]? = some x) (hy : s[j]? = some y) : keyP x < keyP y := by
  obtain ⟨hi, e1⟩ := List.getElem?_eq_some_iff.1 hx
  obtain ⟨hj, e2⟩ := List.getElem?_eq_some_iff.1 hy
  have := List.pairwise_iff_getElem.1 h i j hi hj hij
  rwa [e1, e2] at this
theorem Str.mono {s : List Pst} (h : Str s) (hw : WF s) {x : Pst} (hx : x.wf) : ∀ (i j : Nat) (y z : Pst), i ≤ j → s[i]? = some y → s[j]? = some z → lessP z x = true → lessP y x = true := by
  intro i j y z hij hy hz hl
  have hyw := hw y (List.mem_of_getElem? hy)
  have hzw := hw z (List.mem_of_getElem? hz)
  have h1 := (less_keyP hzw hx).1 hl
  refine (less_keyP hyw hx).2 ?_
  rcases Nat.lt_or_eq_of_le hij with h2 | h2
  · have := h.at h2 hy hz
    omega
  · subst h2
    rw [hy] at hz
    injection hz with hz
    subst hz
    exact h1
theorem PosAt.ge {x : Pst} {s : List Pst} {k : Nat} {b : Bool} (h : PosAt x s k b) (hw : WF s) (hx : x.wf) {i : Nat} {z : Pst} (hi : k ≤ i) (hz : s[i]? = some z) : keyP x ≤ keyP z := by
  have h1 := h.hi i z hi hz
  have h2 := less_keyP (hw z (List.mem_of_getElem? hz)) hx
  rw [h1] at h2
  have : ¬ keyP z < keyP x := fun h => by have := h2.2 h; cases this
  omega
theorem Str.put {s : List Pst} (h : Str s) (hw : WF s) {x : Pst} (hx : x.wf) {k : Nat} (hp : PosAt x s k false) : Str (s.take k ++ x :: s.drop k) := by
  have hgt : ∀ z ∈ s.drop k, keyP x < keyP z := by
    intro z hz
    obtain ⟨j, hj⟩ := List.getElem?_of_mem hz
    rw [List.getElem?_drop] at hj
    have hk : k < s.length := by have := (List.getElem?_eq_some_iff.1 hj).1; omega
    obtain ⟨y, hy⟩ : ∃ y, s[k]? = some y := ⟨_, List.getElem?_eq_getElem hk⟩
    have hl : lessP x y = true := by
      cases hq : lessP x y
      · exact absurd (hp.is.2 ⟨y, hy, hq⟩) (by decide)
      · rfl
    have h1 := (less_keyP hx (hw y (List.mem_of_getElem? hy))).1 hl
    rcases Nat.eq_zero_or_pos j with h0 | h0
    · subst h0
      rw [Nat.add_zero, hy] at hj
      injection hj with hj
      subst hj
      exact h1
    · have := h.at (by omega : k < k + j) hy hj
      omega
  have hlt : ∀ y ∈ s.take k, keyP y < keyP x := by
    intro y hy
    obtain ⟨j, hj⟩ := List.getElem?_of_mem hy
    rw [List.getElem?_take] at hj
    split at hj
    · rename_i hjk
      exact (less_keyP (hw y (List.mem_of_getElem? hj)) hx).1 (hp.lo j y hjk hj)
    · cases hj
  refine List.pairwise_append.2 ⟨List.Pairwise.sublist (List.take_sublist k s) h, List.pairwise_cons.2 ⟨hgt, List.Pairwise.sublist (List.drop_sublist k s) h⟩, ?_⟩
  intro y hy z hz
  rcases List.mem_cons.1 hz with rfl | hz
  · exact hlt y hy
  · have := hlt y hy
    have := hgt z hz
    omega
theorem put_perm (s : List Pst) (x : Pst) (k : Nat) : (s.take k ++ x :: s.drop k).Perm (x :: s) := by
  have h := List.perm_middle (a := x) (l₁ := s.take k) (l₂ := s.drop k)
  rwa [List.take_append_drop] at h
theorem mix_of_perm {l s : List Pst} (h : l.Perm s) (hs : Str s) : Srt.Mix keyP l s := by
  refine ⟨h.length_eq, fun k => ?_⟩
  have h1 := h.filter (fun e => keyP e == k)
  have h2 : (s.filter (fun e => keyP e == k)).Pairwise (fun x y => keyP x < keyP y) := List.Pairwise.filter _ hs
  have h3 : ∀ z ∈ s.filter (fun e => keyP e == k), keyP z = k := fun z hz => by simpa using (List.mem_filter.1 hz).2
  match hq : s.filter (fun e => keyP e == k) with
  | [] =>
    rw [hq] at h1
    exact List.Perm.eq_nil h1
  | [a] =>
    rw [hq] at h1
    exact List.perm_singleton.1 h1
  | a :: b :: r =>
    rw [hq] at h2 h3
    have e1 := h3 a (by simp)
    have e2 := h3 b (by simp)
    have e3 := (List.pairwise_cons.1 h2).1 b (by simp)
    omega
theorem fine_of_str {l s : List Pst} (hm : ∀ p ∈ l, p.may = true) (h : l.Perm s) (hs : Str s) (hw : WF s) : FineP l := by
  refine (fine_perm h).2 ((fine_pairwise s).2 ⟨fun p hp => hm p (h.mem_iff.2 hp), ?_⟩)
  refine List.Pairwise.imp_of_mem ?_ hs
  intro x y hx hy hlt
  cases ha : alike x y
  · rfl
  · have := (alike_key (hw x hx) (hw y hy)).1 ha
    omega
theorem not_fine {la lb s : List Pst} {k : Nat} {x : Pst} (hk : lb[k]? = some x) (h : s.Perm (la ++ lb.take k)) (hw : WF s) (hx : x.wf) {j : Nat} (hp : PosAt x s j true) : ¬ FineP (la ++ lb) := by
  intro hf
  obtain ⟨z, hz, hl⟩ := hp.is.1 rfl
  have hzs := List.mem_of_getElem? hz
  have h1 := hp.ge hw hx (Nat.le_refl _) hz
  have h2 := less_keyP hx (hw z hzs)
  rw [hl] at h2
  have h3 : ¬ keyP x < keyP z := fun h => by have := h2.2 h; cases this
  have hal : alike z x = true := (alike_key (hw z hzs) hx).2 (by omega)
  obtain ⟨hkl, hke⟩ := List.getElem?_eq_some_iff.1 hk
  have e : la ++ lb = (la ++ lb.take k) ++ (x :: lb.drop (k + 1)) := by
    rw [List.append_assoc, ← hke, ← List.drop_eq_getElem_cons hkl, List.take_append_drop]
  have hpw := ((fine_pairwise _).1 hf).2
  rw [e] at hpw
  have := (List.pairwise_append.1 hpw).2.2 z (h.mem_iff.1 hzs) x (by simp)
  rw [hal] at this
  cases this
end Rep
end Go.Proofs.Ytajpggnmhkpbkaa
end
