/- Ways of: ReportTells returns true for every report and kind, and leaves the memory that was there as it was; under a listed table as the program's text lays it, and tied to it. -/
import Derived.Test.YtellhmbebimenaaDoorRt33
import Derived.Test.YtellhmbebimenaaDoorRt47
import Derived.Test.YtellhmbebimenaaDoorRt49
import Derived.Test.YtellhmbebimenaaDoorRt50
import Derived.Test.YtellhmbebimenaaDoorRt1

set_option linter.unusedVariables false
set_option linter.unusedSimpArgs false
namespace Go.Proofs.YtellhmbebimenaaDoor.reportTells
open Go.ChangeShapes Go.WideShapes Go.ChangeAt Go.RowKit Go.Deep

theorem neTG (m x0 x1 x2 x3 x4 x5 : Int) (w : World) : (binOp .neq 59 (.agg #[.int .i64 m, .int .i64 x0, .int .i64 x1, .int .i64 x2, .int .i64 x3, .int .i64 x4, .int .i64 x5]) (.agg #[.int .i64 m, .int .i64 x0, .int .i64 x1, .int .i64 x2, .int .i64 x3, .int .i64 x4, .int .i64 x5])).run Tryd.prog w = .ok (.bool false) w := by
  rw [run_neq_struct, eqInTG, (Rep.sameT_iff m x0 x1 x2 x3 x4 x5 m x0 x1 x2 x3 x4 x5).2 ⟨rfl, rfl, rfl, rfl, rfl, rfl, rfl⟩]
  rfl
theorem guardTn (x y : Operand) (xs ys : Array Value) (w : World) : (eqGuard .neq 59 x y (.agg xs) (.agg ys)).run Tryd.prog w = .ok () w := run_eqGuard_agg w _ _ _ _ _ _ (by kernel_rfl)
theorem str_at {W : World} {b o n c : Nat} {L : List (List UInt8)} (h : LS StrC 1 W (.slice (some ⟨b, o, none⟩) n c) L) {k : Nat} {s : List UInt8} (hk : L[k]? = some s) : W.cell? ⟨b, o + k, none⟩ = some (.string ⟨s.toArray⟩) ∧ b < W.heap.size := by
  obtain ⟨b2, o2, e, hb, hr⟩ := h.at hk
  injection e with e
  injection e with e1 e2
  subst e1 e2
  have := hr 0 _ rfl
  rw [Nat.mul_one] at this
  exact ⟨this, hb⟩
theorem str_form {W : World} {base m : Nat} {v : Value} {xs : List Value} (h : W.ownsRow base 9 1 v (m + 1) xs) : ∃ b c, v = .slice (some ⟨b, 0, none⟩) (m + 1) c := by
  obtain ⟨-, ⟨-, h0⟩ | ⟨g, cap, cur, rfl, -⟩⟩ := h
  · omega
  · exact ⟨g, cap, rfl⟩
set_option maxRecDepth 8000 in
set_option maxHeartbeats 8000000 in
theorem walkY (a b : Int) (l : List Pst) (p : Option Addr) (n cap : Nat) (m x0 x1 x2 x3 x4 x5 kd : Int) (w : World) (hs : PS w (.slice p n cap) l) (htab : Tab w) (hl : n ≤ 60) (hm : Rep.MayP a b l m [x0, x1, x2, x3, x4, x5]) : Calls Tryd.prog 8 #[.agg #[.int .i64 a, .int .i64 b, (.slice p n cap), .int .i64 m, .int .i64 x0, .int .i64 x1, .int .i64 x2, .int .i64 x3, .int .i64 x4, .int .i64 x5], .int .i64 kd] w fun e w' => e = .returned (.bool true) ∧ Below w.heap.size w w' := by
  have HN := Lib.hid (ps_len hs).1
  have hn1 := (ps_len hs).2.1
  have hn2 := (ps_len hs).2.2
  have hmay := hm.2.1.1
  have hl60 : l.length ≤ 60 := by have := HN.out; omega
  have hcols := Post.sums_cols hmay hl60
  have hsl := hm.2.2.2.2
  rw [hcols] at hsl
  injection hsl with e0 e1 e2
  injection e2 with i0 e2
  injection e2 with i1 e2
  injection e2 with i2 e2
  injection e2 with i3 e2
  injection e2 with i4 e2
  injection e2 with i5 e2
  have hea : ∀ z ∈ l, _ := fun z hz => Post.may_each (hmay z hz)
  have b0 := Post.colS_bound (·.a0) (l := l) fun z hz => (hea z hz).1
  have b1 := Post.colS_bound (·.a1) (l := l) fun z hz => (hea z hz).2.1
  have b2 := Post.colS_bound (·.a2) (l := l) fun z hz => (hea z hz).2.2.1
  have b3 := Post.colS_bound (·.a3) (l := l) fun z hz => (hea z hz).2.2.2.1
  have b4 := Post.colS_bound (·.a4) (l := l) fun z hz => (hea z hz).2.2.2.2.1
  have b5 := Post.colS_bound (·.a5) (l := l) fun z hz => (hea z hz).2.2.2.2.2
  have hxb : ∀ x ∈ [x0, x1, x2, x3, x4, x5], -9223372036854775808 < x ∧ x ≤ 9223372036854775807 := by
    intro x hx
    simp only [List.mem_cons, List.not_mem_nil, or_false] at hx
    rcases hx with rfl | rfl | rfl | rfl | rfl | rfl <;> omega
  have HLN := Lib.hid (fun W h ht => pLines_yes a b l p n cap m x0 x1 x2 x3 x4 x5 hm hl (by omega) (fun x hx => by have := hxb x hx; omega) W h ht)
  have HRL := Lib.hid (fun W h => rLines17_any a b l p n cap m x0 x1 x2 x3 x4 x5 hmay hl (by omega) hxb W h)
  obtain ⟨d0, d1, d2, d3, d4, d5, hy⟩ := Post.six_of (Post.sums_fine (l.filter (Rep.ofK kd))).1
  obtain ⟨ev, hev⟩ : ∃ e, (Post.sums (l.filter (Rep.ofK kd))).e = e := ⟨_, rfl⟩
  obtain ⟨NM, hM⟩ : ∃ e, (Post.sums (l.filter (Rep.ofK kd))).m = e := ⟨_, rfl⟩
  have hsum : Post.sums (l.filter (Rep.ofK kd)) = ⟨ev, NM, [d0, d1, d2, d3, d4, d5]⟩ := by rw [← hev, ← hM, ← hy]
  have HBY : Hid (∀ W, PS W (.slice p n cap) l → Calls Tryd.prog 34 #[.agg #[.int .i64 a, .int .i64 b, (.slice p n cap), .int .i64 m, .int .i64 x0, .int .i64 x1, .int .i64 x2, .int .i64 x3, .int .i64 x4, .int .i64 x5], .int .i64 kd] W fun e w' => e = .returned (.agg #[.int .i64 NM, .int .i64 d0, .int .i64 d1, .int .i64 d2, .int .i64 d3, .int .i64 d4, .int .i64 d5]) ∧ Below W.heap.size W w') := Lib.hid (fun W h => pBy_any a b l p n cap (by omega) m x0 x1 x2 x3 x4 x5 true (by simpa using hm) kd ev NM d0 d1 d2 d3 d4 d5 hsum W h)
  have HRB := Lib.hid (fun W h => rBy17_any a b l p n cap (by omega) m x0 x1 x2 x3 x4 x5 kd ev NM d0 d1 d2 d3 d4 d5 hsum W h)
  have HBK : Hid (∀ j : Nat, ∀ W, PS W (.slice p n cap) l → Calls Tryd.prog 34 #[.agg #[.int .i64 a, .int .i64 b, (.slice p n cap), .int .i64 m, .int .i64 x0, .int .i64 x1, .int .i64 x2, .int .i64 x3, .int .i64 x4, .int .i64 x5], .int .i64 ((j : Int) + 1)] W fun e w' => e = .returned (.agg #[.int .i64 ((l.filter (Rep.ofK ((j : Int) + 1))).length : Int), .int .i64 (Post.colS (·.a0) (l.filter (Rep.ofK ((j : Int) + 1)))), .int .i64 (Post.colS (·.a1) (l.filter (Rep.ofK ((j : Int) + 1)))), .int .i64 (Post.colS (·.a2) (l.filter (Rep.ofK ((j : Int) + 1)))), .int .i64 (Post.colS (·.a3) (l.filter (Rep.ofK ((j : Int) + 1)))), .int .i64 (Post.colS (·.a4) (l.filter (Rep.ofK ((j : Int) + 1)))), .int .i64 (Post.colS (·.a5) (l.filter (Rep.ofK ((j : Int) + 1))))]) ∧ Below W.heap.size W w') := Lib.hid (fun j W h => by
    have h2 := Post.sums_cols (l := l.filter (Rep.ofK ((j : Int) + 1))) (fun z hz => hmay z (List.mem_filter.1 hz).1) (Nat.le_trans (List.length_filter_le _ _) hl60)
    exact pBy_any a b l p n cap (by omega) m x0 x1 x2 x3 x4 x5 true (by simpa using hm) ((j : Int) + 1) _ _ _ _ _ _ _ _ h2 W h)
  have HRM := Lib.hid (fun W h => rMay17_any a b l p n cap (by omega) m x0 x1 x2 x3 x4 x5 true (by simpa using hm) W h)
  have hkk : ∀ z ∈ l, 1 ≤ z.k ∧ z.k ≤ 5 := fun z hz => (may_in (hmay z hz)).1
  have HK1 : Hid (Post.kN l 5 = m) := Lib.hid (by rw [Post.kN_five l hkk]; exact e1)
  have HK2 : Hid (Post.kS (·.a0) l 5 = x0) := Lib.hid (by rw [Post.kS_five _ l hkk]; exact i0)
  have HK3 : Hid (Post.kS (·.a3) l 5 = x3) := Lib.hid (by rw [Post.kS_five _ l hkk]; exact i3)
  have HW1 := Lib.hid (Post.kN_bound hl60)
  have HW2 := Lib.hid (Post.kS_bound (·.a0) hl60 fun z hz => (hea z hz).1)
  have HW3 := Lib.hid (Post.kS_bound (·.a3) hl60 fun z hz => (hea z hz).2.2.2.1)
  have HSN : Hid (∀ j, Post.kN l (j + 1) = Post.kN l j + ((l.filter (Rep.ofK ((j : Int) + 1))).length : Int)) := Lib.hid (fun j => rfl)
  have HS2 : Hid (∀ j, Post.kS (·.a0) l (j + 1) = Post.kS (·.a0) l j + Post.colS (·.a0) (l.filter (Rep.ofK ((j : Int) + 1)))) := Lib.hid (fun j => rfl)
  have HS3 : Hid (∀ j, Post.kS (·.a3) l (j + 1) = Post.kS (·.a3) l j + Post.colS (·.a3) (l.filter (Rep.ofK ((j : Int) + 1)))) := Lib.hid (fun j => rfl)
  have HZ1 : Hid (Post.kN l 0 = 0) := Lib.hid rfl
  have HZ2 : Hid (Post.kS (·.a0) l 0 = 0) := Lib.hid rfl
  have HZ3 : Hid (Post.kS (·.a3) l 0 = 0) := Lib.hid rfl
  have hE := fun W => neTG NM d0 d1 d2 d3 d4 d5 W
  have hG := guardTn
  have HPS := Lib.hid hs
  have HTB := Lib.hid htab
  have HLL : Hid ((Post.linesR l m [x0, x1, x2, x3, x4, x5]).length = n + 1) := Lib.hid (by unfold Post.linesR; rw [List.length_append, List.length_map]; have := HN.out; simp; omega)
  have HB := Lib.hid ((Below.refl w.heap.size w).alloc (Nat.le_refl _) (.cells #[.int .i64 a, .int .i64 b, (.slice p n cap), .int .i64 m, .int .i64 x0, .int .i64 x1, .int .i64 x2, .int .i64 x3, .int .i64 x4, .int .i64 x5] 61))
  have HR := Lib.hid (new_rowW w (.cells #[.int .i64 a, .int .i64 b, (.slice p n cap), .int .i64 m, .int .i64 x0, .int .i64 x1, .int .i64 x2, .int .i64 x3, .int .i64 x4, .int .i64 x5] 61) _ rfl)
  clear hs htab hm hsum hev hM hy e0 e1 i0 i1 i2 i3 i4 i5 e2 b0 b1 b2 b3 b4 b5 hxb hea hmay hcols hkk hl60
  generalize Post.linesR l m [x0, x1, x2, x3, x4, x5] = LL at *
  generalize Post.kN l = kN at *
  generalize Post.kS (·.a0) l = kS at *
  generalize Post.kS (·.a3) l = kT at *
  go_enter Tryd.func8, Tryd.ntmps8
  go_upto_region 1 with fail
  generalize w.alloc (.cells #[.int .i64 a, .int .i64 b, (.slice p n cap), .int .i64 m, .int .i64 x0, .int .i64 x1, .int .i64 x2, .int .i64 x3, .int .i64 x4, .int .i64 x5] 61) = w0 at *
  have hc := fun j => cell_of_row w0 w.heap.size j _ _ _ HR.out
  go_wp2_with fail
  clear hc
  refine (HLN.out _ (HPS.out.below HB.out) (HTB.out.below HB.out)).mono ?_
  rintro e w1 ⟨v1, rfl, ho1, hb⟩
  obtain ⟨q1, c1, rfl⟩ := str_form ho1
  have HL1 := Lib.hid (LS.of_own ho1 StrC_length (by decide))
  clear ho1
  replace HB := Lib.hid (HB.out.trans (hb.mono HB.out.size))
  replace HR := Lib.hid ((hb.block _ (block_lt HR.out)).trans HR.out)
  clear hb
  have hc := fun j => cell_of_row w1 w.heap.size j _ _ _ HR.out
  go_wp2_with fail
  clear hc
  refine (HBY.out _ (HPS.out.below HB.out)).mono ?_
  rintro e w2 ⟨rfl, hb⟩
  replace HL1 := Lib.hid (HL1.out.below hb)
  replace HB := Lib.hid (HB.out.trans (hb.mono HB.out.size))
  replace HR := Lib.hid ((hb.block _ (block_lt HR.out)).trans HR.out)
  clear hb
  go_upto_region 5 with fail
  have hb := (Below.refl w2.heap.size w2).alloc (Nat.le_refl _) (.cells #[.int .i64 NM, .int .i64 d0, .int .i64 d1, .int .i64 d2, .int .i64 d3, .int .i64 d4, .int .i64 d5] 59)
  have HT := Lib.hid (new_rowW w2 (.cells #[.int .i64 NM, .int .i64 d0, .int .i64 d1, .int .i64 d2, .int .i64 d3, .int .i64 d4, .int .i64 d5] 59) _ rfl)
  replace HL1 := Lib.hid (HL1.out.below hb)
  replace HB := Lib.hid (HB.out.trans (hb.mono HB.out.size))
  replace HR := Lib.hid ((hb.block _ (block_lt HR.out)).trans HR.out)
  clear hb
  generalize w2.alloc (.cells #[.int .i64 NM, .int .i64 d0, .int .i64 d1, .int .i64 d2, .int .i64 d3, .int .i64 d4, .int .i64 d5] 59) = w3 at *
  generalize w2.heap.size = g6 at *
  have hc := fun j => cell_of_row w3 w.heap.size j _ _ _ HR.out
  go_wp2_with fail
  clear hc
  refine (HRM.out _ (HPS.out.below HB.out)).mono ?_
  rintro e w4 ⟨rfl, hb⟩
  replace HT := Lib.hid ((hb.block _ (block_lt HT.out)).trans HT.out)
  replace HL1 := Lib.hid (HL1.out.below hb)
  replace HB := Lib.hid (HB.out.trans (hb.mono HB.out.size))
  replace HR := Lib.hid ((hb.block _ (block_lt HR.out)).trans HR.out)
  clear hb
  go_upto_region 7 with fail
  have hcu := fun (u : Later w4) (j : Nat) => (u.cell w.heap.size j (block_lt HR.out)).trans (cell_of_row w4 w.heap.size j _ _ _ HR.out)
  have htu := fun (u : Later w4) (j : Nat) => (u.cell g6 j (block_lt HT.out)).trans (cell_of_row w4 g6 j _ _ _ HT.out)
  have HPU := Lib.hid (fun (u : Later w4) => HPS.out.below (HB.out.trans (u.prop.mono HB.out.size)))
  refine wp_region_later (by kernel_rfl) (by kernel_rfl) ?_
  repeat (go_big_quiet_step (first | (go_at_call 36; exact later_call (HRB.out _ (HPU.out _)))))
  refine wpQuiet_nil ?_
  rintro w5 ⟨u, rfl⟩
  have hb := u.prop
  clear hcu htu
  replace HL1 := Lib.hid (HL1.out.below hb)
  replace HB := Lib.hid (HB.out.trans (hb.mono HB.out.size))
  replace HR := Lib.hid ((hb.block _ (block_lt HR.out)).trans HR.out)
  clear hb
  clear HT HPU
  generalize u.val = w5 at *
  have hc := fun j => cell_of_row w5 w.heap.size j _ _ _ HR.out
  go_wp2_with fail
  clear hc
  refine (HRL.out _ (HPS.out.below HB.out)).mono ?_
  rintro e w6 ⟨v2, rfl, ho2, hb⟩
  obtain ⟨q2, c2, rfl⟩ := str_form ho2
  have HL2 := Lib.hid (LS.of_own ho2 StrC_length (by decide))
  clear ho2
  replace HL1 := Lib.hid (HL1.out.below hb)
  replace HB := Lib.hid (HB.out.trans (hb.mono HB.out.size))
  replace HR := Lib.hid ((hb.block _ (block_lt HR.out)).trans HR.out)
  clear hb
  clear HLN HRL HBY HRB HRM
  go_wp2_with fail
  go_loopw [8] (fun i wr => ∃ k : Nat, k ≤ n + 1 ∧ i = .int .i64 k ∧ Below w6.heap.size w6 wr) (fun i _ => n + 1 - (intOf i).toNat)
  case atStart => exact ⟨0, by omega, rfl, Below.refl _ _⟩
  case round =>
    obtain ⟨k, hk, rfl, hbw⟩ := hrel
    have HBW := Lib.hid hbw
    clear hbw
    by_cases hlt : k < n + 1
    · obtain ⟨s, hs⟩ : ∃ s, LL[k]? = some s := ⟨_, List.getElem?_eq_getElem (by have := HLL.out; omega)⟩
      obtain ⟨s1, t1⟩ := str_at (HL1.out.below HBW.out) hs
      obtain ⟨s2, t2⟩ := str_at (HL2.out.below HBW.out) hs
      clear hs
      rw [Nat.zero_add] at s1 s2
      generalize (⟨s.toArray⟩ : ByteArray) = SS at *
      go_upto_region 15 with fail
      have hcu := fun (u : Later wr) => (u.cell q1 k t1).trans s1
      have hcv := fun (u : Later wr) => (u.cell q2 k t2).trans s2
      refine wp_region_later (by kernel_rfl) (by kernel_rfl) ?_
      repeat (go_big_quiet_step (fail))
      refine wpQuiet_nil ?_
      rintro w9 ⟨u, rfl⟩
      have HBU := Lib.hid (HBW.out.trans (u.prop.mono HBW.out.size))
      clear hcu hcv s1 s2 t1 t2
      generalize u.val = w9 at *
      go_wp2_with fail
      go_roundw
      case rel => exact ⟨k + 1, by omega, by go_num, HBU.out⟩
      case measure => simp [intOf]; omega
    · obtain rfl : k = n + 1 := by omega
      have hb := HBW.out
      replace HB := Lib.hid (HB.out.trans (hb.mono HB.out.size))
      replace HR := Lib.hid ((hb.block _ (block_lt HR.out)).trans HR.out)
      clear hb
      clear HBW HL1 HL2
      go_wp2_with fail
      have HB9 := Lib.hid HB.out
      go_loopw [9, 10, 11, 12] (fun m1 m2 m3 i wr => ∃ j : Nat, j ≤ 5 ∧ i = .int .i64 ((j : Int) + 1) ∧ m1 = .int .i64 (kN j) ∧ m2 = .int .i64 (kS j) ∧ m3 = .int .i64 (kT j) ∧ Below w.heap.size w wr ∧ wr.heap[w.heap.size]? = some (.cells #[.int .i64 a, .int .i64 b, (.slice p n cap), .int .i64 m, .int .i64 x0, .int .i64 x1, .int .i64 x2, .int .i64 x3, .int .i64 x4, .int .i64 x5] 61 (0, 0))) (fun _ _ _ i _ => 6 - (intOf i).toNat)
      case atStart => exact ⟨0, by omega, rfl, by rw [HZ1.out], by rw [HZ2.out], by rw [HZ3.out], HB.out, HR.out⟩
      case round =>
        obtain ⟨j, hj, rfl, rfl, rfl, rfl, hb, hr⟩ := hrel
        have HBJ := Lib.hid hb
        have HRJ := Lib.hid hr
        clear hb hr
        have hcj := fun j => cell_of_row wr w.heap.size j _ _ _ HRJ.out
        by_cases hlt : j < 5
        · have hle : (j : Int) + 1 ≤ 5 := by omega
          have HBJK := Lib.hid (fun W h => HBK.out j W h)
          have q1 : IntKind.i64.wrap (kN j + ((l.filter (Rep.ofK ((j : Int) + 1))).length : Int)) = kN (j + 1) := by
            rw [← HSN.out j, IntKind.wrap_i64]; have := HW1.out (j + 1); omega
          have q2 : IntKind.i64.wrap (kS j + Post.colS (·.a0) (l.filter (Rep.ofK ((j : Int) + 1)))) = kS (j + 1) := by
            rw [← HS2.out j, IntKind.wrap_i64]; have := HW2.out (j + 1); omega
          have q3 : IntKind.i64.wrap (kT j + Post.colS (·.a3) (l.filter (Rep.ofK ((j : Int) + 1)))) = kT (j + 1) := by
            rw [← HS3.out j, IntKind.wrap_i64]; have := HW3.out (j + 1); omega
          generalize ((l.filter (Rep.ofK ((j : Int) + 1))).length : Int) = NJ at *
          generalize Post.colS (·.a0) (l.filter (Rep.ofK ((j : Int) + 1))) = C0 at *
          generalize Post.colS (·.a1) (l.filter (Rep.ofK ((j : Int) + 1))) = C1 at *
          generalize Post.colS (·.a2) (l.filter (Rep.ofK ((j : Int) + 1))) = C2 at *
          generalize Post.colS (·.a3) (l.filter (Rep.ofK ((j : Int) + 1))) = C3 at *
          generalize Post.colS (·.a4) (l.filter (Rep.ofK ((j : Int) + 1))) = C4 at *
          generalize Post.colS (·.a5) (l.filter (Rep.ofK ((j : Int) + 1))) = C5 at *
          go_wp2_with fail
          clear hcj
          refine (HBJK.out _ (HPS.out.below HBJ.out)).mono ?_
          rintro e w8 ⟨rfl, hb⟩
          replace HBJ := Lib.hid (HBJ.out.trans (hb.mono HBJ.out.size))
          replace HRJ := Lib.hid ((hb.block _ (block_lt HRJ.out)).trans HRJ.out)
          clear hb
          go_upto_region 22 with fail
          have hb := (Below.refl w8.heap.size w8).alloc (Nat.le_refl _) (.cells #[.int .i64 NJ, .int .i64 C0, .int .i64 C1, .int .i64 C2, .int .i64 C3, .int .i64 C4, .int .i64 C5] 59)
          have HTJ := Lib.hid (new_rowW w8 (.cells #[.int .i64 NJ, .int .i64 C0, .int .i64 C1, .int .i64 C2, .int .i64 C3, .int .i64 C4, .int .i64 C5] 59) _ rfl)
          replace HBJ := Lib.hid (HBJ.out.trans (hb.mono HBJ.out.size))
          replace HRJ := Lib.hid ((hb.block _ (block_lt HRJ.out)).trans HRJ.out)
          clear hb
          generalize w8.alloc (.cells #[.int .i64 NJ, .int .i64 C0, .int .i64 C1, .int .i64 C2, .int .i64 C3, .int .i64 C4, .int .i64 C5] 59) = w9 at *
          generalize w8.heap.size = gj at *
          have hct := fun j => cell_of_row w9 gj j _ _ _ HTJ.out
          go_wp2_with fail
          go_roundw
          case rel =>
            iterate 24 apply Exists.intro
            refine And.intro ?r ?f
            case f => rfl
            case r => exact ⟨j + 1, by omega, by go_num, rfl, rfl, rfl, HBJ.out, HRJ.out⟩
          case measure => simp [intOf]; omega
        · obtain rfl : j = 5 := by omega
          have k1 : (kN 5 == m) = true := by rw [HK1.out]; simp
          have k2 : (kS 5 == x0) = true := by rw [HK2.out]; simp
          have k3 : (kT 5 == x3) = true := by rw [HK3.out]; simp
          go_wp2_with fail
          refine (known17_any _).mono ?_
          rintro e w8 ⟨rfl, hb⟩
          have HBF := Lib.hid (HBJ.out.trans (hb.mono HBJ.out.size))
          clear hb
          go_wp2
          go_ret
          exact ⟨rfl, HBF.out⟩
end Go.Proofs.YtellhmbebimenaaDoor.reportTells
