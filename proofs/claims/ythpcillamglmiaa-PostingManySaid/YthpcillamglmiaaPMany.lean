/- PostingMany returns true for every posting and number, and leaves the memory that was there as it was. -/
import Derived.Test.YthpcillamglmiaaPSums
import Derived.Maps.AppendAt
import Derived.OwnWalk
set_option linter.unusedVariables false
set_option linter.unusedSimpArgs false
namespace Go.Proofs.Ythpcillamglmiaa
open Go.ChangeShapes Go.WideShapes Go.ChangeAt Go.RowKit Go.Deep

theorem post_info : ∃ i, Try.prog.info? 30 = some i ∧ i.zero = some (.agg #[.int .i64 0, .int .u64 0, .int .i64 0, .int .i64 0, .int .i64 0, .int .i64 0, .int .i64 0, .int .i64 0, .int .i64 0, .int .i64 0]) ∧ i.size = 10 ∧ i.bytes = 80 := by
  have h : (Try.prog.info? 30).map (fun i => (i.zero, i.size, i.bytes)) = some (some (.agg #[.int .i64 0, .int .u64 0, .int .i64 0, .int .i64 0, .int .i64 0, .int .i64 0, .int .i64 0, .int .i64 0, .int .i64 0, .int .i64 0]), 10, 80) := by kernel_rfl
  cases hi : Try.prog.info? 30 with
  | none => rw [hi] at h; cases h
  | some i =>
    rw [hi] at h
    injection h with h
    injection h with h1 h2
    injection h2 with h2 h3
    exact ⟨i, rfl, h1, h2, h3⟩
def cellsL (l : List Pst) : List Value := l.flatMap Pst.cells
theorem cellsL_length (l : List Pst) : (cellsL l).length = l.length * 10 := by
  induction l with
  | nil => rfl
  | cons x l ih =>
    show (x.cells ++ cellsL l).length = _
    rw [List.length_append, ih, List.length_cons]
    show 10 + _ = _
    omega
theorem cellsL_at {l : List Pst} {i : Nat} {x : Pst} (h : l[i]? = some x) (j : Nat) (hj : j < 10) : (cellsL l)[i * 10 + j]? = x.cells[j]? := by
  induction l generalizing i with
  | nil => cases h
  | cons y l ih =>
    show (y.cells ++ cellsL l)[i * 10 + j]? = _
    cases i with
    | zero =>
      injection h with h
      subst h
      rw [List.getElem?_append_left (by show 0 * 10 + j < 10; omega)]
      simp
    | succ i =>
      rw [List.getElem?_append_right (by show 10 ≤ _; omega), ← ih (i := i) (by simpa using h)]
      congr 1
      show (i + 1) * 10 + j - 10 = _
      omega
theorem cellsL_snoc (l : List Pst) (x : Pst) : cellsL (l ++ [x]) = cellsL l ++ x.cells := by unfold cellsL; rw [List.flatMap_append]; simp
theorem ps_of_own {w : World} {base : Nat} {v : Value} {l : List Pst} (h : w.ownsRow base 30 10 v l.length (cellsL l)) (hw : ∀ x ∈ l, x.wf) : PS w v l := by
  obtain ⟨hlen, hor⟩ := h
  rcases hor with ⟨rfl, h0⟩ | ⟨g, cap, cur, rfl, hg, hh, hnc, hcm, hcs, htk⟩
  · exact ⟨none, 0, by rw [h0], by omega, by simp, hw, fun hne => absurd (List.length_eq_zero_iff.1 h0) hne⟩
  · refine ⟨_, cap, rfl, hnc, hcm, hw, fun hne => ⟨g, 0, rfl, ?_, fun i x hx => ?_⟩⟩
    · rcases Nat.lt_or_ge g w.heap.size with hlt | hge
      · exact hlt
      · rw [Array.getElem?_eq_none hge] at hh; cases hh
    · have hi : i < l.length := (List.getElem?_eq_some_iff.1 hx).1
      have key : ∀ j, j < 10 → w.cell? ⟨g, 0 + i * 10 + j, none⟩ = x.cells[j]? := by
        intro j hj
        rw [cell_of_row w g _ cur _ _ hh, ← cellsL_at hx j hj, ← htk, List.getElem?_take_of_lt (by omega), Nat.zero_add]
        simp
      exact ⟨key 0 (by omega), key 1 (by omega), key 2 (by omega), key 3 (by omega), key 4 (by omega), key 5 (by omega), key 6 (by omega), key 7 (by omega), key 8 (by omega), key 9 (by omega)⟩
theorem own_alloc {w : World} {base e size n : Nat} {v : Value} {xs : List Value} (h : w.ownsRow base e size v n xs) (o : Obj) : (w.alloc o).ownsRow base e size v n xs := by
  obtain ⟨h1, h2⟩ := h
  refine ⟨h1, ?_⟩
  rcases h2 with h2 | ⟨g, cap, cur, e1, hg, hh, h3⟩
  · exact .inl h2
  · exact .inr ⟨g, cap, cur, e1, hg, row_alloc hh o, h3⟩
theorem own_base {w : World} {base e size n : Nat} {v : Value} {xs : List Value} (h : w.ownsRow base e size v n xs) {b : Nat} (hb : v.ownBlock = some b) : base ≤ b := by
  rcases h.2 with ⟨rfl, _⟩ | ⟨g, cap, cur, rfl, hg, _⟩
  · cases hb
  · injection hb with hb; simp at hb; omega
theorem row_add {w : World} {g j : Nat} {cs : Array Value} {t : TypeId} (h : w.heap[g]? = some (.cells cs t (0, 0))) : w.cell? ((⟨g, 0, none⟩ : Addr).add j) = cs[j]? := by
  rw [Go.WideShapes.add_plain, Nat.zero_add]
  exact cell_of_row w g j cs t _ h
theorem one_cells (x : Pst) : ∀ u ∈ x.cells, u.oneCell' = true := by
  intro u hu
  simp [Pst.cells] at hu
  rcases hu with h | h | h | h | h | h | h | h | h | h <;> subst h <;> rfl

theorem wpList_append_post {ops : Array Oper} {rest : List Oper} {o : Oper} {a : Act} {Q : Exit → Act → World → Prop} {w : World} (hgd : o.guard = none) (s x : Operand)
    (ho : o.op = .call { callee := .builtin .append, args := #[s, x], argTypes := #[35, 35] }) (base : Nat) (v : Value) (n : Nat) (xs : List Value) (hs : a.eval s = v) (hown : w.ownsRow base 30 10 v n xs)
    (ad : Addr) (y : Pst) (hx : a.eval x = .slice (some ad) 1 1) (hnews : ∀ j u, y.cells[j]? = some u → w.cell? (ad.add j) = some u) (hn : n ≤ 1000000) (hbase : base ≤ w.heap.size)
    (h : ∀ v' w', w'.ownsRow base 30 10 v' (n + 1) (xs ++ y.cells) → w.grownBy w' v.ownBlock → (v'.ownBlock = v.ownBlock ∨ v'.ownBlock = some w.heap.size) → wpList Try.prog ops Q rest (a.put o.dst v') w') :
    wpList Try.prog ops Q (o :: rest) a w := by
  obtain ⟨i0, hi0, hi1, hi2, hi3⟩ := post_info
  exact wpList_append_own_at w hgd s x _ ho base _ i0 _ 10 80 Try.underlying35 hi0 hi1 hi2 hi3 rfl (by decide) v n xs hs hown ad 1 1 y.cells hx rfl hnews (one_cells y) (by simp only [maxLen]; omega) (by omega) hbase fun v' w' h1 h2 _ h3 => h v' w' h1 h2 h3

set_option maxRecDepth 10000 in
theorem open_posting {H : Type} {enc : TypeId × Value → H} {W : World} {base : Nat} {r : Reach} {held : Bool} {spare : Nat → Bool} {b0 : Nat} {v : Value} {d : DataW H} {ps : List MemPlace} (hv : Value.okWide Try.prog W r b0 30 v)
    (h : DataW.Trod enc Try.prog W base spare held 30 v d ps) : ∃ x : Pst, v = .agg #[.int .i64 x.d, .int .u64 x.t, .int .i64 x.s, .int .i64 x.k, .int .i64 x.a0, .int .i64 x.a1, .int .i64 x.a2, .int .i64 x.a3, .int .i64 x.a4, .int .i64 x.a5] ∧ x.wf := by
  obtain ⟨cs, rfl, hsz⟩ := okWide_struct Try.underlying30 hv
  obtain ⟨fuel, hf⟩ := h
  obtain ⟨x, hx, hw⟩ := open_post hf
  refine ⟨x, ?_, hw⟩
  have : cs.toList = x.cells := hx
  obtain ⟨l⟩ := cs
  have hl : l = x.cells := this
  rw [hl]
  rfl
end Go.Proofs.Ythpcillamglmiaa
namespace Go.Proofs.Ythpcillamglmiaa.postingMany
open Go.ChangeShapes Go.WideShapes Go.ChangeAt Go.RowKit

set_option maxRecDepth 4000 in
set_option maxHeartbeats 1000000 in
theorem walk (x : Pst) (hw : x.wf) (many : Int) (w : World) :
    Calls Try.prog 5 #[.agg #[.int .i64 x.d, .int .u64 x.t, .int .i64 x.s, .int .i64 x.k, .int .i64 x.a0, .int .i64 x.a1, .int .i64 x.a2, .int .i64 x.a3, .int .i64 x.a4, .int .i64 x.a5], .int .i64 many] w
      fun e w' => e = .returned (.bool true) ∧ Below w.heap.size w w' := by
  have HW := Lib.hid hw; clear hw
  by_cases h0 : many < 0
  · go_enter Try.func5, Try.ntmps5
    go_wp2_with fail
    refine (known14_any _).mono ?_
    rintro e w1 ⟨rfl, hb1⟩
    go_wp2
    go_ret
    exact ⟨rfl, below_call (balloc (Below.refl _ _) _) hb1⟩
  by_cases h1 : 1100 < many
  · go_enter Try.func5, Try.ntmps5
    go_wp2_with fail
    refine (known14_any _).mono ?_
    rintro e w1 ⟨rfl, hb1⟩
    go_wp2
    go_ret
    exact ⟨rfl, below_call (balloc (Below.refl _ _) _) hb1⟩
  obtain ⟨n, rfl⟩ := Int.eq_ofNat_of_zero_le (show 0 ≤ many by omega)
  obtain ⟨i0, hi0, hi1, hi2, hi3⟩ := post_info
  have HI0 := Lib.hid hi0; have HI1 := Lib.hid hi1; have HI2 := Lib.hid hi2; have HI3 := Lib.hid hi3
  clear hi0 hi1 hi2 hi3
  have hn : n ≤ 1100 := by omega
  go_enter Try.func5, Try.ntmps5
  go_wp2_with fail
  go_loopw [5, 6] (fun v i wr => ∃ (k : Nat) (u : Value), k ≤ n ∧ i = .int .i64 k ∧ v = u ∧ Below w.heap.size w wr ∧ w.heap.size < wr.heap.size ∧
      wr.heap[w.heap.size]? = some (.cells #[.int .i64 x.d, .int .u64 x.t, .int .i64 x.s, .int .i64 x.k, .int .i64 x.a0, .int .i64 x.a1, .int .i64 x.a2, .int .i64 x.a3, .int .i64 x.a4, .int .i64 x.a5] 30 (0, 0)) ∧
      wr.ownsRow (w.heap.size + 1) 30 10 u k (cellsL (List.replicate k x))) (fun _ i _ => n - (intOf i).toNat)
  case atStart => exact ⟨0, _, Nat.zero_le _, rfl, rfl, balloc (Below.refl _ _) _, by simp, new_row _ _ _ rfl, rfl, .inl ⟨rfl, rfl⟩⟩
  case round =>
    obtain ⟨k, u, hk, rfl, rfl, hbw, hsz, hrx, hown⟩ := hrel
    have HRX := Lib.hid hrx
    have HBW := Lib.hid hbw; clear hbw
    have HO := Lib.hid hown; clear hown
    have hcx := fun j => cell_of_row wr w.heap.size j _ _ _ hrx
    clear hrx
    by_cases hlt : k < n
    · go_wp2_with (at_builtin; refine wpList_append_post rfl _ _ rfl (w.heap.size + 1) _ k _ rfl (own_alloc HO.out _) ⟨wr.heap.size, 0, none⟩ x rfl ?c1 (by omega) ?c5 ?_)
      case c1 => exact fun j u hu => (row_add (new_row _ _ _ rfl)).trans (by rw [← Array.getElem?_toList]; exact hu)
      case c5 => simp; omega
      intro v1 w1 hown1 hg1 hat1
      have hb1 : Below (w.heap.size + 1) (wr.alloc (.cells #[.int .i64 x.d, .int .u64 x.t, .int .i64 x.s, .int .i64 x.k, .int .i64 x.a0, .int .i64 x.a1, .int .i64 x.a2, .int .i64 x.a3, .int .i64 x.a4, .int .i64 x.a5] 30)) w1 :=
        (Below.refl _ _).grown hg1 (by simp; omega) (fun b hb => own_base HO.out hb)
      have HB1 := Lib.hid ((balloc HBW.out _).trans (hb1.mono (by omega)))
      have HR1 := Lib.hid ((hb1.block w.heap.size (by omega)).trans (row_alloc HRX.out _))
      have hs1 : w.heap.size < w1.heap.size := Nat.lt_of_lt_of_le hsz (Nat.le_trans (by simp) hb1.size)
      have HO1 := Lib.hid hown1
      clear hb1 hown1 hg1 hat1 hcx
      go_wp2
      go_roundw
      case rel => exact ⟨k + 1, _, by omega, by go_num, rfl, HB1.out, hs1, HR1.out, by have := HO1.out; rw [List.replicate_succ', cellsL_snoc]; exact this⟩
      case measure => simp [intOf]; omega
    · obtain rfl : k = n := by omega
      have hPS : PS wr _ (List.replicate k x) := ps_of_own (by rw [List.length_replicate]; exact HO.out) (fun y hy => by rw [List.eq_of_mem_replicate hy]; exact HW.out)
      obtain ⟨p, cap, hv, hcap⟩ := hPS
      have HPS : Hid (PS wr (.slice p (List.replicate k x).length cap) (List.replicate k x)) := Lib.hid ⟨p, cap, rfl, hcap⟩
      rw [hv]
      clear hv hcap HO hcx
      rw [List.length_replicate] at *
      obtain ⟨l, hl, hn⟩ : ∃ l, l = List.replicate k x ∧ k = l.length := ⟨_, rfl, by simp⟩
      rw [← hl] at HPS
      clear hl
      have HF := Lib.hid (Post.sums_fine l)
      obtain ⟨x0, x1, x2, x3, x4, x5, hx⟩ := Post.six_of HF.out.1
      obtain ⟨m, hm⟩ : ∃ m, (Post.sums l).m = m := ⟨_, rfl⟩
      obtain ⟨ev, he⟩ : ∃ m, (Post.sums l).e = m := ⟨_, rfl⟩
      have hsum : Post.sums l = ⟨ev, m, [x0, x1, x2, x3, x4, x5]⟩ := by rw [← hx, ← hm, ← he]
      have HI := Lib.hid (fun W hs => sum_any l p k cap hn W hs ev m x0 x1 x2 x3 x4 x5 hsum)
      have HR := Lib.hid (fun W hs => rSum_any l p k cap hn W hs ev m x0 x1 x2 x3 x4 x5 hsum)
      clear hx hm he hsum HF hn
      have hE := eqTot m x0 x1 x2 x3 x4 x5
      have hG := guardTot
      go_wp2_with fail
      refine (HI.out _ HPS.out).mono ?_
      rintro e w1 ⟨rfl, hb1⟩
      have HB1 := Lib.hid (balloc hb1 (.cells #[.int .i64 m, .int .i64 x0, .int .i64 x1, .int .i64 x2, .int .i64 x3, .int .i64 x4, .int .i64 x5] 37 (0, 0)))
      clear hb1
      go_wp2_with fail
      refine (HR.out _ (HPS.out.below HB1.out)).mono ?_
      rintro e w2 ⟨rfl, hb2⟩
      have hc2 := (bcell hb2).1
      have hz2 : w1.heap.size < w2.heap.size := by have := hb2.size; simp at this; omega
      have HB2 := Lib.hid (balloc (below_call HB1.out hb2) (.cells #[.int .i64 m, .int .i64 x0, .int .i64 x1, .int .i64 x2, .int .i64 x3, .int .i64 x4, .int .i64 x5] 37 (0, 0)))
      clear hb2
      go_wp2_with fail
      refine (known14_any _).mono ?_
      rintro e w3 ⟨rfl, hb3⟩
      go_wp2
      go_ret
      exact ⟨rfl, below_call HBW.out (below_call HB2.out hb3)⟩

set_option maxRecDepth 100000 in
theorem lifted (os : Os) (started : os.Started) (H : Type) (enc : TypeId × Value → H) :
    ReturnsInHanded {} Try.checked os 5 .any (Rows.postingManySpec.pre6 enc Try.prog Try.f5 Rows.postingManyRow.domain false) (Rows.postingManySpec.post enc Try.prog Try.f5 false true false false) := by
  refine returnsInHanded_of_change (C := Try.checked) own started (by kernel_rfl) Try.func5
    (ChangeSpec.witness6 (enc := enc) (C := Try.checked) false ⟨#[], #[.agg #[.int .i64 0, .int .u64 0, .int .i64 0, .int .i64 0, .int .i64 0, .int .i64 0, .int .i64 0, .int .i64 0, .int .i64 0, .int .i64 0], .int .i64 0], []⟩ 8 (by kernel_rfl) (by kernel_rfl) (by kernel_rfl) (by kernel_rfl)) ?_
  intro W base args ds gs before hval0 hW hcnd _
  have hval : ∀ (j : Nat) t v, Try.f5.params[j]? = some t → args[j]? = some v → Value.okWide Try.prog W .any base t v := hval0
  have hW' := hW
  obtain ⟨p, q, hA0, hV, rfl, hfz, hnd⟩ := hW
  have hA : DataW.TrodAll enc Try.prog W 0 (fun _ => true) true Try.f5.params.toList args.toList ds p := hA0
  rw [Try.params5] at hA hval
  obtain ⟨v0, vs0, d0, ds0, p0, q0, hargs, rfl, rfl, h0, r0⟩ := trodAll_cons hA
  obtain ⟨v1, vs1, d1, ds1, p1, q1, rfl, rfl, rfl, h1, r1⟩ := trodAll_cons r0
  obtain ⟨rfl, rfl, rfl⟩ := trodAll_nil r1
  obtain rfl : args = #[v0, v1] := by cases args; simp_all
  obtain ⟨x, rfl, hx⟩ := open_posting (hval 0 _ v0 rfl rfl) h0
  obtain ⟨many, rfl, rfl, rfl, wmany⟩ := open_int Try.underlying3 (hval 1 3 v1 rfl rfl) h1
  clear hA0 hval0
  refine (walk x hx many W).mono fun e W' ⟨he, hg⟩ => ?_
  subst he
  exact ⟨_, rfl, post_law laidOut rfl hW' ⟨rfl, rfl, rfl⟩ (by kernel_rfl) hg Try.underlying4 rfl⟩

theorem proved : Rows.PostingManySaid :=
  OpenClaim.holds_of_wide 5 Try.f5 rfl rfl rfl rfl rfl rfl rfl ⟨rfl, rfl, rfl, rfl, rfl⟩ rfl rfl rfl rfl rfl (by kernel_rfl) Try.func5 (by kernel_rfl)
    (of_decide_eq_true (by kernel_rfl)) (by unfold Func.isWrapper; first | (rw [if_pos (by decide +kernel)]; kernel_rfl) | (rw [if_neg (by decide +kernel)]; exact ⟨rfl, rfl⟩))
    (fun os started H enc _ => lifted os started H enc)
#print axioms proved
end Go.Proofs.Ythpcillamglmiaa.postingMany
