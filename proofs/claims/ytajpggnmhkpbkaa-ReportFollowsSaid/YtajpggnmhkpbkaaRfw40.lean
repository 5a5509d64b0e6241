/- slices.Insert of one posting into an own row of postings. slices.Insert of one posting ahead of another one, in place. -/
import Derived.Test.YtajpggnmhkpbkaaRfw39
import Derived.Lib.AppendZerosOnto
import Derived.Lib.Overlaps
import Derived.Laws.Externs
import Derived.Laws.IdiomCopy
import Derived.Shelf.RegionOpenPlain

section
set_option linter.unusedVariables false
set_option linter.unusedSimpArgs false
namespace Go.Proofs.Ytajpggnmhkpbkaa
open Go.RowKit

/-- 'copy' of whole elements into a row -/
theorem run_copy_rowN {P : Program} (w : World) (dT sT ty elem : TypeId) (sz g o dLen dCap : Nat) (a : Addr) (sLen sCap m : Nat) (cur : Array Value) (t : TypeId) (cs : List Value)
    (hu : P.underlying dT = some (.slice elem)) (hs : (P.info? elem).map (·.size) = some sz) (hg : w.heap[g]? = some (.cells cur t (0, 0))) (hm : m = Nat.min sLen dLen) (hn : cs.length = m * sz)
    (hsrc : ∀ j v, cs[j]? = some v → w.cell? (a.add j) = some v) (hfit : o + cs.length ≤ cur.size) (h1 : ∀ v ∈ cs, v.oneCell' = true) :
    (Builtin.copy_ #[dT, sT] ty #[.slice (some ⟨g, o, none⟩) dLen dCap, .slice (some a) sLen sCap]).run P w =
      .ok (goInt m) (w.setRow g (cur.toList.take o ++ cs ++ cur.toList.drop (o + cs.length)).toArray) := by
  have hl := run_loadCells_list (P := P) w a cs hsrc
  have hst := run_storeCells_at P g o t cs 0 cur w hg (by simpa using hfit) h1
  cases hq : P.info? elem with
  | none => simp [hq] at hs
  | some i =>
    have hi : i.size = sz := by simpa [hq] using hs
    simp [Builtin.copy_, run_underlying hu, Builtin.lenOf, Builtin.firstCells, sizeOf, typeInfo, hq, hi, ← hm, ← hn, hl, hst]
theorem wpList_copy_runJ {P : Program} (w : World) {ops : Array Oper} {rest : List Oper} {o : Oper} {a : Act} {Q : Exit → Act → World → Prop} (hgd : o.guard = none) (d s : Operand) (t t' : TypeId)
    (ho : o.op = .call { callee := .builtin .copy, args := #[d, s], argTypes := #[t, t'] }) (v u : Value) (hd : a.eval d = v) (hs : a.eval s = u) {v' : Value} {w' : World}
    (hr : (Builtin.copy_ #[t, t'] o.type #[v, u]).run P w = .ok v' w') (h : wpList P ops Q rest (a.put o.dst v') w') : wpList P ops Q (o :: rest) a w := by
  refine wpList_plain hgd fun _ hK => ?_
  unfold Oper.wp execOp
  simp only [ho, resolve, invoke, builtin, Sem.run_bind, Sem.run_pure, Result.andThen_ok, List.map_toArray, List.map_cons, List.map_nil, hd, hs, hr]
  exact hK _ _ h
theorem step_copy_runJ {P : Program} {ops : Array Oper} {o : Oper} {a : Act} {w : World} {K : Act → World → Prop} {Q : Exit → Act → World → Prop} {E : Prop}
    (hg : o.guard = none) (d x : Operand) (dT sT : TypeId) (hop : o.op = Op.call { callee := Callee.builtin Builtin.copy, args := #[d, x], argTypes := #[dT, sT] })
    (v u : Value) (hd : a.eval d = v) (hx : a.eval x = u) {v' : Value} {w' : World} (hr : (Builtin.copy_ #[dT, sT] o.type #[v, u]).run P w = .ok v' w') (hK : K (a.put o.dst v') w') :
    if Region.wanted o (yielded ops a.tmps) = true then Oper.wp P o a w K Q else E := by
  have hw : Region.wanted o (yielded ops a.tmps) = true := by simp [Region.wanted, hg]
  rw [if_pos hw]
  unfold Oper.wp
  simp [execOp, hop, resolve, invoke, builtin, hd, hx, hr, Result.andThen]
  exact hK
theorem hzP (W : World) : (sizeOf (Try.prog.elem 38)).run Try.prog W = .ok 10 W := by
  rw [show Try.prog.elem 38 = 68 from by kernel_rfl]; simp [go_sem]
theorem run_tailP (b o n cap k : Nat) (h : k ≤ n) (hc : n ≤ cap) (W : World) : (Instr.slice 38 (.slice (some ⟨b, o, none⟩) n cap) (some (.int .i64 (k : Int))) none none).run Try.prog W = .ok (.slice (some ⟨b, if cap = k then o else o + k * 10, none⟩) (n - k) (cap - k)) W := by
  have ht : Try.prog.underlying 38 = some (.slice (Try.prog.elem 38)) := by kernel_rfl
  rw [run_slice_l W _ _ _ _ ht _ _ (by omega) (by omega), hzP]
  by_cases hck : cap = k
  · simp [sliced, Result.andThen, Addr.add, hck]
  · by_cases hk0 : k = 0
    · subst hk0; simp [sliced, Result.andThen, Addr.add]
    · have h6 : ¬ k * 10 = 0 := by omega
      simp [sliced, Result.andThen, Addr.add, hck, h6]
theorem run_tailP0 (k : Nat) (h : k = 0) (W : World) : (Instr.slice 38 (.slice none 0 0) (some (.int .i64 (k : Int))) none none).run Try.prog W = .ok (.slice none 0 0) W := by
  subst h
  have ht : Try.prog.underlying 38 = some (.slice (Try.prog.elem 38)) := by kernel_rfl
  rw [run_slice_l W _ _ _ _ ht _ _ (by omega) (by omega), hzP]
  simp [sliced, Result.andThen, Addr.add]
theorem run_headP (q : Option Addr) (n cap k : Nat) (h : k ≤ cap) (W : World) : (Instr.slice 38 (.slice q n cap) none (some (.int .i64 (k : Int))) none).run Try.prog W = .ok (.slice q k cap) W := by
  have ht : Try.prog.underlying 38 = some (.slice (Try.prog.elem 38)) := by kernel_rfl
  rw [run_slice_h W _ _ _ _ ht _ _ (by omega) (by omega), hzP]
  cases q <;> simp [sliced, Result.andThen, Addr.add]

set_option maxRecDepth 8000 in
set_option maxHeartbeats 4000000 in
/-- at the end -/
theorem insEnd_any (x : Pst) (l : List Pst) (base gx : Nat) (v : Value) (n : Nat) (w : World) (ho : w.ownsRow base 68 10 v n (encL Pst.cells l)) (hx : w.heap[gx]? = some (.cells x.cells.toArray 68 (0, 0))) (hb : base ≤ w.heap.size) (hn : n ≤ 1000000) :
    Calls Try.prog 47 #[v, .int .i64 n, .slice (some ⟨gx, 0, none⟩) 1 1] w
      fun e w' => ∃ v', e = .returned v' ∧ w'.ownsRow base 68 10 v' (n + 1) (encL Pst.cells (l ++ [x])) ∧ w.grownBy w' v.ownBlock := by
  have HO := Lib.hid ho; have HX := Lib.hid hx
  have HLX := Lib.hid (row_one (enc := Pst.cells) (x := x) hx rfl Pst.cells_length (by decide))
  obtain ⟨-, ⟨rfl, rfl⟩ | ⟨g, cap, cur, rfl, -, -, hnc, hcm, -⟩⟩ := ho
  · have hsl := fun W => run_tailP0 0 rfl W
    simp only [Int.ofNat_zero, Int.natCast_zero] at hsl
    go_enter Try.func47, Try.ntmps47
    go_wp2_with (at_builtin; refine wpList_append_recs elemP rfl _ _ rfl base _ _ _ rfl HO.out _ [x] rfl HLX.out (by simp) hb ?_; intro v2 w2 hown2 hg2 hn2 hat2)
    all_goals
      go_ret
      exact ⟨_, rfl, hown2, hg2⟩
  · unfold maxLen at hcm
    have hsl := fun W => run_tailP g 0 n cap n (Nat.le_refl _) hnc W
    go_enter Try.func47, Try.ntmps47
    go_wp2_with (at_builtin; refine wpList_append_recs elemP rfl _ _ rfl base _ _ _ rfl HO.out _ [x] rfl HLX.out (by simp; omega) hb ?_; intro v2 w2 hown2 hg2 hn2 hat2)
    all_goals
      go_ret
      exact ⟨_, rfl, hown2, hg2⟩

/-- what stands in the row behind the insertion -/
theorem ins_cells (x : Pst) (l : List Pst) (i : Nat) (hi : i ≤ l.length) (cur : Array Value) (htk : cur.toList.take (l.length * 10) = encL Pst.cells l) (hsz : (l.length + 1) * 10 ≤ cur.size) :
    ∀ cur1 cur2 : Array Value, cur1 = (cur.toList.take ((i + 1) * 10) ++ encL Pst.cells (l.drop i) ++ cur.toList.drop ((i + 1) * 10 + (encL Pst.cells (l.drop i)).length)).toArray →
      cur2 = (cur1.toList.take (i * 10) ++ x.cells ++ cur1.toList.drop (i * 10 + x.cells.length)).toArray →
      cur1.size = cur.size ∧ cur2.size = cur.size ∧ cur2.toList.take ((l.length + 1) * 10) = encL Pst.cells (l.take i ++ x :: l.drop i) := by
  intro cur1 cur2 h1 h2
  have hd : (encL Pst.cells (l.drop i)).length = (l.length - i) * 10 := by rw [encL_length Pst.cells_length, List.length_drop]
  have ht : (encL Pst.cells (l.take i)).length = i * 10 := by rw [encL_length Pst.cells_length, List.length_take, Nat.min_eq_left hi]
  have hx := Pst.cells_length x
  have hcl : cur.toList.length = cur.size := by simp
  have e1 : cur1.toList = cur.toList.take ((i + 1) * 10) ++ encL Pst.cells (l.drop i) ++ cur.toList.drop ((i + 1) * 10 + (encL Pst.cells (l.drop i)).length) := by rw [h1]
  have s1 : cur1.toList.length = cur.size := by
    rw [e1]
    simp only [List.length_append, List.length_take, List.length_drop, hd, hcl]
    omega
  have e2 : cur2.toList = cur1.toList.take (i * 10) ++ x.cells ++ cur1.toList.drop (i * 10 + x.cells.length) := by rw [h2]
  have s2 : cur2.toList.length = cur.size := by
    rw [e2]
    simp only [List.length_append, List.length_take, List.length_drop, hx, s1]
    omega
  refine ⟨by simpa using s1, by simpa using s2, ?_⟩
  have hA : cur1.toList.take (i * 10) = encL Pst.cells (l.take i) := by
    rw [e1, List.append_assoc, List.take_append_of_le_length (by rw [List.length_take, hcl]; omega), List.take_take, Nat.min_eq_left (by omega), ← encL_take Pst.cells_length, ← htk, List.take_take, Nat.min_eq_left (by omega)]
  have hB : cur1.toList.drop (i * 10 + x.cells.length) = encL Pst.cells (l.drop i) ++ cur.toList.drop ((i + 1) * 10 + (encL Pst.cells (l.drop i)).length) := by
    rw [e1, List.append_assoc, hx, List.drop_append_of_le_length (by rw [List.length_take, hcl]; omega), List.drop_of_length_le (by rw [List.length_take, hcl]; omega), List.nil_append]
  rw [e2, hA, hB, ← List.append_assoc, List.take_append_of_le_length (by
    simp only [List.length_append, ht, hx, hd]
    omega), List.take_of_length_le (by
    simp only [List.length_append, ht, hx, hd]
    omega)]
  rw [encL_append]
  show _ = encL Pst.cells (l.take i) ++ (x.cells ++ encL Pst.cells (l.drop i))
  rw [List.append_assoc]
end Go.Proofs.Ytajpggnmhkpbkaa
end

section
set_option linter.unusedVariables false
set_option linter.unusedSimpArgs false
namespace Go.Proofs.Ytajpggnmhkpbkaa
open Go.RowKit

theorem setRow_far (w : World) (g : Nat) (c : Array Value) (k : Nat) (h : k ≠ g) : (w.setRow g c).heap[k]? = w.heap[k]? := by
  simp [World.setRow, Array.getElem?_modify, Ne.symm h]
theorem setRow_grown (w : World) (g : Nat) (c : Array Value) : w.grownBy (w.setRow g c) (some g) := ⟨rfl, rfl, rfl, by simp, fun k _ h => setRow_far w g c k (fun e => h (by rw [e]))⟩
theorem encL_dropR {α : Type} {enc : α → List Value} {n : Nat} (hn : ∀ x, (enc x).length = n) (l : List α) (k : Nat) (hk : k ≤ l.length) : (encL enc l).drop (k * n) = encL enc (l.drop k) := by
  have h : encL enc l = encL enc (l.take k) ++ encL enc (l.drop k) := by rw [← encL_append, List.take_append_drop]
  rw [h, List.drop_append_of_le_length (by rw [encL_length hn, List.length_take, Nat.min_eq_left hk]; exact Nat.le_refl _), List.drop_of_length_le (by rw [encL_length hn, List.length_take, Nat.min_eq_left hk]; exact Nat.le_refl _), List.nil_append]
set_option maxRecDepth 8000 in
set_option maxHeartbeats 4000000 in
theorem insMid_any (x : Pst) (l : List Pst) (base gx g cap i n : Nat) (cur : Array Value) (w : World) (hi : i < n) (hnl : n = l.length) (hroom : n + 1 ≤ cap) (hcap : cap ≤ 9223372036854775807) (hg : w.heap[g]? = some (.cells cur 68 (0, 0))) (hcs : cur.size = cap * 10) (htk : cur.toList.take (n * 10) = encL Pst.cells l) (hbg : base ≤ g) (hx : w.heap[gx]? = some (.cells x.cells.toArray 68 (0, 0))) (hne : gx ≠ g) (hn : n ≤ 1000000) (h1l : ∀ v ∈ encL Pst.cells l, v.oneCell' = true) :
    Calls Try.prog 47 #[.slice (some ⟨g, 0, none⟩) n cap, .int .i64 i, .slice (some ⟨gx, 0, none⟩) 1 1] w
      fun e w' => ∃ v', e = .returned v' ∧ w'.ownsRow base 68 10 v' (n + 1) (encL Pst.cells (l.take i ++ x :: l.drop i)) ∧ w.grownBy w' (some g) := by
  have hu : Try.prog.underlying 38 = some (.slice 68) := by kernel_rfl
  have hs10 : (Try.prog.info? 68).map (·.size) = some 10 := by kernel_rfl
  have hwi : IntKind.i64.wrap ((i : Int) + 1) = ((i + 1 : Nat) : Int) := by rw [IntKind.wrap_i64]; omega
  have hwn : IntKind.i64.wrap ((n : Int) + 1) = ((n + 1 : Nat) : Int) := by rw [IntKind.wrap_i64]; omega
  have hc1 : ¬ cap = i := by omega
  have hc2 : ¬ cap = i + 1 := by omega
  have hsl1 := fun W => run_tailP g 0 n cap i (by omega) (by omega) W
  have hsl2 := fun W => run_headP (some ⟨g, 0, none⟩) n cap (n + 1) hroom W
  have hsl3 := fun W => run_tailP g 0 (n + 1) cap (i + 1) (by omega) hroom W
  have hsl4 := fun W => run_tailP g 0 (n + 1) cap i (by omega) hroom W
  simp only [if_neg hc1, if_neg hc2, Nat.zero_add] at hsl1 hsl2 hsl3 hsl4
  have hz2 : ((i : Int) == (n : Int)) = false := beq_eq_false_iff_ne.2 (by omega)
  have hov : ∀ lb cb, (callFunc 67 #[.slice (some ⟨gx, 0, none⟩) 1 1, .slice (some ⟨g, (i + 1) * 10, none⟩) lb cb]).run Try.prog w = .ok (.value (.bool false)) w := fun lb cb => by
    rw [run_callFunc_extern Try.func67 (by kernel_rfl) (by kernel_rfl) (by kernel_rfl) (e := Extern.SlicesOverlaps.overlaps #[38, 38] #[4]) (by kernel_rfl),
      Lib.run_overlaps_apart w 38 4 68 hu 10 (fun W => by simp [go_sem]) ⟨gx, 0, none⟩ ⟨g, (i + 1) * 10, none⟩ 1 1 lb cb hne 68 68 x.cells.toArray.size cur.size (by simp [World.shape?, hx]) (by simp [World.shape?, hg]) (by omega) (frozen_of_row _ _ _ _ _ hx) (frozen_of_row _ _ _ _ _ hx)]
    rfl
  have hdl : (encL Pst.cells (l.drop i)).length = (n - i) * 10 := by rw [encL_length Pst.cells_length, List.length_drop, hnl]
  obtain ⟨cur1, h1⟩ : ∃ c : Array Value, c = (cur.toList.take ((i + 1) * 10) ++ encL Pst.cells (l.drop i) ++ cur.toList.drop ((i + 1) * 10 + (encL Pst.cells (l.drop i)).length)).toArray := ⟨_, rfl⟩
  obtain ⟨cur2, h2⟩ : ∃ c : Array Value, c = (cur1.toList.take (i * 10) ++ x.cells ++ cur1.toList.drop (i * 10 + x.cells.length)).toArray := ⟨_, rfl⟩
  obtain ⟨sz1, sz2, htk2⟩ := ins_cells x l i (by omega) cur (by rw [← hnl]; exact htk) (by rw [← hnl]; omega) cur1 cur2 h1 h2
  have hcp1 : ∀ ty, (Builtin.copy_ #[38, 38] ty #[.slice (some ⟨g, (i + 1) * 10, none⟩) (n + 1 - (i + 1)) (cap - (i + 1)), .slice (some ⟨g, i * 10, none⟩) (n + 1 - i) (cap - i)]).run Try.prog w.drew = .ok (goInt ((n - i : Nat) : Int)) (w.drew.setRow g cur1) := fun ty => by
    rw [h1]
    refine run_copy_rowN w.drew _ _ ty 68 10 g _ _ _ ⟨g, i * 10, none⟩ _ _ (n - i) cur 68 (encL Pst.cells (l.drop i)) hu hs10 hg ?_ hdl ?_ ?_ ?_
    · simp only [Nat.min_def]; split <;> omega
    · intro j v hj
      rw [Addr.add_lit]
      show w.cell? ⟨g, i * 10 + j, none⟩ = some v
      have hjl : j < (n - i) * 10 := by rw [← hdl]; exact (List.getElem?_eq_some_iff.1 hj).1
      rw [cell_of_row w g _ cur _ _ hg]
      have e : cur.toList[i * 10 + j]? = (encL Pst.cells l)[i * 10 + j]? := by rw [← htk, List.getElem?_take_of_lt (by omega)]
      rw [← encL_dropR Pst.cells_length l i (by omega), List.getElem?_drop] at hj
      rw [← hj, ← e]
      simp
    · rw [hdl, hcs]; omega
    · intro v hv
      refine h1l v ?_
      rw [← encL_dropR Pst.cells_length l i (by omega)] at hv
      exact List.mem_of_mem_drop hv
  have hg1 : (w.drew.setRow g cur1).heap[g]? = some (.cells cur1 68 (0, 0)) := setRow_heap _ g cur _ _ _ hg
  have hx1 : (w.drew.setRow g cur1).heap[gx]? = some (.cells x.cells.toArray 68 (0, 0)) := (setRow_far _ g cur1 gx hne).trans hx
  have hcp2 : ∀ ty dc, (Builtin.copy_ #[38, 38] ty #[.slice (some ⟨g, i * 10, none⟩) (n + 1 - i) dc, .slice (some ⟨gx, 0, none⟩) 1 1]).run Try.prog (w.drew.setRow g cur1) = .ok (goInt 1) ((w.drew.setRow g cur1).setRow g cur2) := fun ty dc => by
    rw [h2]
    refine run_copy_rowN (w.drew.setRow g cur1) _ _ ty 68 10 g _ _ _ ⟨gx, 0, none⟩ _ _ 1 cur1 68 x.cells hu hs10 hg1 ?_ (by rw [Pst.cells_length]) ?_ ?_ ?_
    · simp only [Nat.min_def]; split <;> omega
    · intro j v hj
      rw [Addr.add_lit, cell_of_row _ gx _ _ _ _ hx1, Nat.zero_add]
      simpa using hj
    · rw [Pst.cells_length, sz1, hcs]; omega
    · intro v hv
      exact elemP.one x v hv
  have HFIN : Hid (((w.drew.setRow g cur1).setRow g cur2).ownsRow base 68 10 (.slice (some ⟨g, 0, none⟩) (n + 1) cap) (n + 1) (encL Pst.cells (l.take i ++ x :: l.drop i)) ∧ w.grownBy ((w.drew.setRow g cur1).setRow g cur2) (some g)) := Lib.hid (by
    have hg2 : ((w.drew.setRow g cur1).setRow g cur2).heap[g]? = some (.cells cur2 68 (0, 0)) := setRow_heap _ g cur1 _ _ _ hg1
    refine ⟨⟨?_, .inr ⟨g, cap, cur2, rfl, hbg, hg2, hroom, by unfold maxLen; omega, by rw [sz2, hcs], by rw [hnl]; exact htk2⟩⟩, ?_⟩
    · rw [encL_length Pst.cells_length, List.length_append, List.length_cons, List.length_take, List.length_drop]
      omega
    · rw [setRow_setRow]
      exact ⟨rfl, rfl, rfl, by simp, fun k _ h => setRow_far w.drew g cur2 k (fun e => h (by rw [e]))⟩)
  have mixed : Try.prog.follows .mixedOrders = true := by kernel_rfl
  have HNL := Lib.hid hnl
  clear hnl h1 h2 hg1 hx1 sz1 sz2 htk2 h1l htk hg hx hdl
  obtain ⟨i1, hi1⟩ : ∃ i1, i1 = i + 1 := ⟨_, rfl⟩
  obtain ⟨n1, hn1⟩ : ∃ n1, n1 = n + 1 := ⟨_, rfl⟩
  rw [← hi1] at hwi hsl3 hov hcp1
  rw [← hn1] at hwn hsl2 hsl3 hsl4 hcp1 hcp2 HFIN
  have hr1 : (n1 : Int) ≤ (cap : Int) := by omega
  have hr2 : (0 : Int) ≤ (i1 : Int) := by omega
  have hr3 : (i1 : Int) ≤ (n1 : Int) := by omega
  have HI1 := Lib.hid hi1; have HN1 := Lib.hid hn1
  clear hi1 hn1 hroom
  go_enter Try.func47, Try.ntmps47
  go_wp2_with (simp only [hov])
  go_region_law_o (refine step_copy_runJ rfl _ _ 38 38 rfl _ _ (by simp [Act.eval, Act.put]) (by simp [Act.eval, Act.put]) (hcp1 _) ?_)
  go_wp2_with (at_builtin; refine wpList_copy_runJ _ rfl _ _ 38 38 rfl _ _ rfl rfl (hcp2 _ _) ?_)
  go_ret
  refine ⟨_, rfl, ?_, HFIN.out.2⟩
  rw [← HN1.out]
  exact HFIN.out.1
end Go.Proofs.Ytajpggnmhkpbkaa
end
