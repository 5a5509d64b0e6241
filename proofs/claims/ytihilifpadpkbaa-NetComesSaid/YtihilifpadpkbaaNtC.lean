/- Contract: Send of the net. -/
import Derived.Test.YtihilifpadpkbaaNtB
set_option linter.unusedVariables false
set_option linter.unusedSimpArgs false
namespace Go.Proofs.Ytihilifpadpkbaa
open Go.RowKit

theorem Turn.grown {S : Nat → Prop} {a w w' : World} {row : Option Nat} (h : Turn S a w) (hg : w.grownBy w' row) (hr : ∀ k, k < a.heap.size → row = some k → S k) : Turn S a w' :=
  h.after (S' := fun i => row = some i) ⟨hg.os, hg.tape, hg.output, hg.size, fun k hk hn => hg.block k hk (fun e => hn e.symm)⟩ (fun i hi e => hr i hi e)
theorem step_append_recs4 {α : Type} {enc : α → List Value} {n : Nat} {P : Program} {bytes sl e : Nat} (E : Elem P enc n bytes sl e) {ops : Array Oper} {o : Oper} {a : Act} {K : Act → World → Prop} {Q : Exit → Act → World → Prop} {F : Prop} {w : World} (hgd : o.guard = none) (s x : Operand)
    (ho : o.op = .call { callee := .builtin .append, args := #[s, x], argTypes := #[sl, sl] }) (base : Nat) (v : Value) (m : Nat) (d : List α) (hs : a.eval s = v) (hown : w.ownsRow base e n v m (encL enc d))
    (y : Value) (l : List α) (hx : a.eval x = y) (hb : LS enc n w y l) (hn : m + l.length ≤ 1073741824) (hbase : base ≤ w.heap.size)
    (h : ∀ v' w', w'.ownsRow base e n v' (m + l.length) (encL enc (d ++ l)) → w.grownBy w' v.ownBlock → (v'.ownBlock = v.ownBlock ∨ v'.ownBlock = some w.heap.size) → K (a.put o.dst v') w') :
    if Region.wanted o (yielded ops a.tmps) = true then Oper.wp P o a w K Q else F := by
  have hw : Region.wanted o (yielded ops a.tmps) = true := by simp [Region.wanted, hgd]
  rw [if_pos hw]
  obtain ⟨v', w', hr, g1, g2, _, g4⟩ := run_append_recs E w base o.type v m d hown y l hb hn hbase
  exact Lib.wp_append_run w s x _ _ ho v _ hs hx v' w' hr (h v' w' g1 g2 g4)
theorem row_drew {w : World} {g : Nat} {o : Obj} (h : w.heap[g]? = some o) : w.drew.heap[g]? = some o := h
/-- a held letter that was just sent -/
def h0 (x : Lt) : Hd := ⟨x, 0⟩
theorem rec_form {w : World} {base e n m : Nat} {v : Value} {xs : List Value} (h : w.ownsRow base e n v m xs) : ∃ q c, v = .slice q m c := by
  rcases h.2 with ⟨rfl, h0⟩ | ⟨g, cap, cur, rfl, _⟩
  · exact ⟨none, 0, by rw [h0]⟩
  · exact ⟨_, cap, rfl⟩
theorem h0_take {l : List Lt} {j : Nat} {x : Lt} (hx : l[j]? = some x) : (l.take (j + 1)).map h0 = (l.take j).map h0 ++ [h0 x] := by
  rw [List.take_add_one, hx]; simp

section
variable (l : List Lt) (hfit : ∀ x ∈ l, x.fit) (p : Option Addr) (n cap : Nat) (w : World) (base g : Nat) (k : Int) (calm : Bool) (v : Value) (all : List Hd)
set_option maxHeartbeats 1000000 in
include hfit in
theorem nsend_bad (h : IsN w base g k calm v all) (hk : 0 < k) (hs : LS Lt.cells 15 w (.slice p n cap) l) (hbad : ∃ x ∈ l, x.may = false) :
    Calls Try.prog 11 #[.pointer (some ⟨g, 0, none⟩), .slice p n cap] w fun e w' => e = .returned (.int .i64 2) ∧ Below w.heap.size w w' := by
  have HT := Lib.hid (nthere_any w base g k calm v all h hk)
  have HH := Lib.hid (hasL_any l (fun x => !x.may) true (by simpa using hbad) p n cap w hs (fun x hx W _ => send1_any x (hfit x hx) W))
  clear h hs hbad hfit
  go_enter Try.func11, Try.ntmps11
  go_wp2_with (first | (go_at_call 27; refine HT.out.mono ?_; rintro e w' ⟨rfl, rfl⟩) | (go_at_call 28; refine HH.out.mono ?_; rintro e w1 ⟨rfl, hb1⟩; have HB1 := Lib.hid hb1; clear hb1))
  go_ret
  exact ⟨rfl, HB1.out⟩

set_option maxHeartbeats 1000000 in
include hfit in
theorem nsend_full (h : IsN w base g k calm v all) (hk : 0 < k) (hs : LS Lt.cells 15 w (.slice p n cap) l) (hok : ∀ x ∈ l, x.may = true) (hl : all.length ≤ 10000) (hfull : 10000 < all.length + l.length) :
    Calls Try.prog 11 #[.pointer (some ⟨g, 0, none⟩), .slice p n cap] w fun e w' => e = .returned (.int .i64 8) ∧ Below w.heap.size w w' := by
  have HT := Lib.hid (nthere_any w base g k calm v all h hk)
  have HH := Lib.hid (hasL_any l (fun x => !x.may) false (by simp only [Bool.false_eq_true, false_iff]; rintro ⟨x, hx, h1⟩; rw [hok x hx] at h1; cases h1) p n cap w hs (fun x hx W _ => send1_any x (hfit x hx) W))
  have H := Lib.hid h
  have hn := hs.length.1
  have hfull' : 10000 < all.length + n := by omega
  have hn2 := hs.length
  unfold maxLen at hn2
  obtain ⟨-, hn2, hn3⟩ := hn2
  clear hs hok hfit hfull hn h
  have hown := H.out.2.2.1
  obtain ⟨m, hm⟩ : ∃ m, all.length = m := ⟨_, rfl⟩
  rw [hm] at hown hl hfull'
  obtain ⟨qv, cv, rfl⟩ := rec_form hown
  clear hown
  go_enter Try.func11, Try.ntmps11
  go_wp2_with (first | (go_at_call 27; refine HT.out.mono ?_; rintro e w' ⟨rfl, rfl⟩) | (go_at_call 28; refine HH.out.mono ?_; rintro e w1 ⟨rfl, hb1⟩; have HB1 := Lib.hid hb1; have hr1 := (hb1.block g (block_lt H.out.2.1)).trans H.out.2.1; have hc := fun j => cell_of_row w1 g j _ _ _ hr1; clear hb1 hr1))
  go_ret
  exact ⟨rfl, HB1.out⟩

set_option maxRecDepth 4000 in
set_option maxHeartbeats 4000000 in
include hfit in
theorem nsend_ok (h : IsN w base g k calm v all) (hk : 0 < k) (hs : LS Lt.cells 15 w (.slice p n cap) l) (hok : ∀ x ∈ l, x.may = true) (hfull : all.length + l.length ≤ 10000) (hbase : base ≤ w.heap.size) (hap : ∀ b, (Value.slice p n cap).ownBlock = some b → ¬ Ft g v b) :
    Calls Try.prog 11 #[.pointer (some ⟨g, 0, none⟩), .slice p n cap] w fun e w' => e = .returned (.int .i64 0) ∧ ∃ v', IsN w' base g k calm v' (all ++ l.map h0) ∧ Turn (Ft g v) w w' ∧ (v'.ownBlock = v.ownBlock ∨ ∃ b, v'.ownBlock = some b ∧ w.heap.size ≤ b) := by
  have HT := Lib.hid (nthere_any w base g k calm v all h hk)
  have HH := Lib.hid (hasL_any l (fun x => !x.may) false (by simp only [Bool.false_eq_true, false_iff]; rintro ⟨x, hx, h1⟩; rw [hok x hx] at h1; cases h1) p n cap w hs (fun x hx W _ => send1_any x (hfit x hx) W))
  have H := Lib.hid h
  have HN := Lib.hid hs.length.1
  have hn2 := hs.length
  unfold maxLen at hn2
  obtain ⟨-, hn2, hn3⟩ := hn2
  have hfull' : all.length + n ≤ 10000 := by have := HN.out; omega
  have HS := Lib.hid hs; have HAP := Lib.hid hap
  clear hs hok hfit hfull h hap
  have hown := H.out.2.2.1
  obtain ⟨m, hm⟩ : ∃ m, all.length = m := ⟨_, rfl⟩
  have HM := Lib.hid hm
  rw [hm] at hown hfull'
  clear hm
  have hgs : g < w.heap.size := block_lt H.out.2.1
  have HGS := Lib.hid hgs
  have HBASE := Lib.hid hbase
  clear hgs hbase
  obtain ⟨qv, cv, rfl⟩ := rec_form hown
  clear hown
  go_enter Try.func11, Try.ntmps11
  go_wp2_with (first | (go_at_call 27; refine HT.out.mono ?_; rintro e w' ⟨rfl, rfl⟩) | (go_at_call 28; refine HH.out.mono ?_; rintro e w1 ⟨rfl, hb1⟩; have HB1 := Lib.hid hb1; have H1 := Lib.hid (H.out.below hb1); have HS1 := Lib.hid (HS.out.below hb1); have hc := fun j => cell_of_row w1 g j _ _ _ H1.out.2.1; clear hb1))
  obtain ⟨v, hvv⟩ : ∃ v, v = Value.slice qv m cv := ⟨_, rfl⟩
  rw [← hvv] at H H1 HAP
  have HVV := Lib.hid hvv
  clear hvv HT HH
  clear hc
  go_loopw [26] (fun i wr => ∃ (j : Nat) (v' : Value), j ≤ n ∧ i = .int .i64 j ∧ IsN wr base g k calm v' (all ++ (l.take j).map h0) ∧ Turn (Ft g v) w wr ∧ (v'.ownBlock = v.ownBlock ∨ ∃ b, v'.ownBlock = some b ∧ w.heap.size ≤ b)) (fun i _ => n - (intOf i).toNat)
  case atStart => exact ⟨0, v, Nat.zero_le _, rfl, by simpa using H1.out, .of_below HB1.out, .inl rfl⟩
  case round =>
    obtain ⟨j, v', hj, rfl, hin, htu, hvb⟩ := hrel
    have HIN := Lib.hid hin; have HTU := Lib.hid htu; have HVB := Lib.hid hvb
    by_cases hlt : j < n
    · obtain ⟨x, hx⟩ : ∃ x, l[j]? = some x := ⟨_, List.getElem?_eq_getElem (by have := HN.out; omega)⟩
      obtain ⟨bb, o, rfl, hbl, hr⟩ := (HS.out.turn htu HAP.out).at hx
      have HTK := Lib.hid (h0_take hx)
      have hgr : g < wr.heap.size := block_lt hin.2.1
      have HGR := Lib.hid hgr
      have hrow := row_allocS hin.2.1 (.cells #[.int .i64 x.f, .int .i64 x.t, .int .u64 x.n, .int .u64 x.a, .int .i64 x.k, .int .u64 x.tk, .int .i64 x.c, .int .i64 x.d, .int .i64 x.co, .int .i64 x.fl, .int .i64 x.dy, .int .i64 x.va, .int .i64 x.st, .int .i64 x.ho, .int .u64 x.nx] 35 (0, 0))
      have HI2 := Lib.hid (hin.below ((Below.refl _ _).alloc (Nat.le_refl _) (.cells #[.int .i64 x.f, .int .i64 x.t, .int .u64 x.n, .int .u64 x.a, .int .i64 x.k, .int .u64 x.tk, .int .i64 x.c, .int .i64 x.d, .int .i64 x.co, .int .i64 x.fl, .int .i64 x.dy, .int .i64 x.va, .int .i64 x.st, .int .i64 x.ho, .int .u64 x.nx] 35 (0, 0))))
      have HT2 := Lib.hid (htu.alloc (.cells #[.int .i64 x.f, .int .i64 x.t, .int .u64 x.n, .int .u64 x.a, .int .i64 x.k, .int .u64 x.tk, .int .i64 x.c, .int .i64 x.d, .int .i64 x.co, .int .i64 x.fl, .int .i64 x.dy, .int .i64 x.va, .int .i64 x.st, .int .i64 x.ho, .int .u64 x.nx] 35 (0, 0)))
      have c0 : wr.cell? ⟨bb, o + j * 15, none⟩ = some (.int .i64 x.f) := hr 0 _ rfl
      have c1 : wr.cell? ⟨bb, o + j * 15 + 1, none⟩ = some (.int .i64 x.t) := hr 1 _ rfl
      have c2 : wr.cell? ⟨bb, o + j * 15 + 2, none⟩ = some (.int .u64 x.n) := hr 2 _ rfl
      have c3 : wr.cell? ⟨bb, o + j * 15 + 3, none⟩ = some (.int .u64 x.a) := hr 3 _ rfl
      have c4 : wr.cell? ⟨bb, o + j * 15 + 4, none⟩ = some (.int .i64 x.k) := hr 4 _ rfl
      have c5 : wr.cell? ⟨bb, o + j * 15 + 5, none⟩ = some (.int .u64 x.tk) := hr 5 _ rfl
      have c6 : wr.cell? ⟨bb, o + j * 15 + 6, none⟩ = some (.int .i64 x.c) := hr 6 _ rfl
      have c7 : wr.cell? ⟨bb, o + j * 15 + 7, none⟩ = some (.int .i64 x.d) := hr 7 _ rfl
      have c8 : wr.cell? ⟨bb, o + j * 15 + 8, none⟩ = some (.int .i64 x.co) := hr 8 _ rfl
      have c9 : wr.cell? ⟨bb, o + j * 15 + 9, none⟩ = some (.int .i64 x.fl) := hr 9 _ rfl
      have c10 : wr.cell? ⟨bb, o + j * 15 + 10, none⟩ = some (.int .i64 x.dy) := hr 10 _ rfl
      have c11 : wr.cell? ⟨bb, o + j * 15 + 11, none⟩ = some (.int .i64 x.va) := hr 11 _ rfl
      have c12 : wr.cell? ⟨bb, o + j * 15 + 12, none⟩ = some (.int .i64 x.st) := hr 12 _ rfl
      have c13 : wr.cell? ⟨bb, o + j * 15 + 13, none⟩ = some (.int .i64 x.ho) := hr 13 _ rfl
      have c14 : wr.cell? ⟨bb, o + j * 15 + 14, none⟩ = some (.int .u64 x.nx) := hr 14 _ rfl
      clear hin htu hvb hx hr
      go_wp2_with fail
      generalize hw2 : wr.alloc (.cells #[.int .i64 x.f, .int .i64 x.t, .int .u64 x.n, .int .u64 x.a, .int .i64 x.k, .int .u64 x.tk, .int .i64 x.c, .int .i64 x.d, .int .i64 x.co, .int .i64 x.fl, .int .i64 x.dy, .int .i64 x.va, .int .i64 x.st, .int .i64 x.ho, .int .u64 x.nx] 35 (0, 0)) = w2 at *
      have hcg := fun j => cell_of_row w2 g j _ _ _ hrow
      have hcx : ∀ j, w2.cell? ⟨wr.heap.size, j, none⟩ = #[.int .i64 x.f, .int .i64 x.t, .int .u64 x.n, .int .u64 x.a, .int .i64 x.k, .int .u64 x.tk, .int .i64 x.c, .int .i64 x.d, .int .i64 x.co, .int .i64 x.fl, .int .i64 x.dy, .int .i64 x.va, .int .i64 x.st, .int .i64 x.ho, .int .u64 x.nx][j]? := fun j => by rw [← hw2]; exact cell_of_row _ _ j _ _ _ (new_rowW wr _ _ rfl)
      have HSZ := Lib.hid (show wr.heap.size < w2.heap.size from by rw [← hw2]; simp)
      have HGL := Lib.hid (show g < w2.heap.size from block_lt hrow)
      clear hw2 hrow c0 c1 c2 c3 c4 c5 c6 c7 c8 c9 c10 c11 c12 c13 c14
      have HI3 := Lib.hid (HI2.out.below ((Below.refl _ _).alloc (Nat.le_refl _) (.cells #[.int .i64 x.f, .int .i64 x.t, .int .u64 x.n, .int .u64 x.a, .int .i64 x.k, .int .u64 x.tk, .int .i64 x.c, .int .i64 x.d, .int .i64 x.co, .int .i64 x.fl, .int .i64 x.dy, .int .i64 x.va, .int .i64 x.st, .int .i64 x.ho, .int .u64 x.nx, .int .i64 0] 69 (0, 0))).drew)
      have HT3 := Lib.hid ((HT2.out.alloc (.cells #[.int .i64 x.f, .int .i64 x.t, .int .u64 x.n, .int .u64 x.a, .int .i64 x.k, .int .u64 x.tk, .int .i64 x.c, .int .i64 x.d, .int .i64 x.co, .int .i64 x.fl, .int .i64 x.dy, .int .i64 x.va, .int .i64 x.st, .int .i64 x.ho, .int .u64 x.nx, .int .i64 0] 69 (0, 0))).drew)
      have HN3 := Lib.hid (row_drew (new_rowW w2 (.cells #[.int .i64 x.f, .int .i64 x.t, .int .u64 x.n, .int .u64 x.a, .int .i64 x.k, .int .u64 x.tk, .int .i64 x.c, .int .i64 x.d, .int .i64 x.co, .int .i64 x.fl, .int .i64 x.dy, .int .i64 x.va, .int .i64 x.st, .int .i64 x.ho, .int .u64 x.nx, .int .i64 0] 69 (0, 0)) _ rfl))
      have HL3 := Lib.hid (show (all ++ (l.take j).map h0).length + 1 ≤ 1073741824 from by have := HN.out; have := HM.out; simp; omega)
      have HB3 := Lib.hid (show base ≤ (w2.alloc (.cells #[.int .i64 x.f, .int .i64 x.t, .int .u64 x.n, .int .u64 x.a, .int .i64 x.k, .int .u64 x.tk, .int .i64 x.c, .int .i64 x.d, .int .i64 x.co, .int .i64 x.fl, .int .i64 x.dy, .int .i64 x.va, .int .i64 x.st, .int .i64 x.ho, .int .u64 x.nx, .int .i64 0] 69 (0, 0))).drew.heap.size from by have h1 := HI3.out.1; have h2 := block_lt HI3.out.2.1; omega)
      have hgl := HGL.out
      have hszx := HSZ.out
      go_region_law (refine step_append_recs4 elemHd rfl _ _ rfl base v' (all ++ (l.take j).map h0).length (all ++ (l.take j).map h0) rfl HI3.out.2.2.1 _ [h0 x] rfl (row_one (x := h0 x) HN3.out rfl Hd.cells_length (by decide)) HL3.out HB3.out ?_; intro v2 w3 hown2 hg2 hn2; generalize hm2 : (all ++ (l.take j).map h0).length + [h0 x].length = m2 at hown2; have HM2 := Lib.hid hm2; obtain ⟨q2, c2, rfl⟩ := rec_form hown2; have HO2 := Lib.hid hown2; have HG2 := Lib.hid hg2; have HN2 := Lib.hid hn2; have hr3 := (hg2.block g (block_lt HI3.out.2.1) (fun e => HI3.out.2.2.2 e.symm)).trans HI3.out.2.1; have HR3 := Lib.hid hr3; have hc3 := fun j => cell_of_row w3 g j _ _ _ hr3; have hf3 := fun j => frozen_of_row w3 g j _ _ hr3; clear hown2 hg2 hn2 hr3 hm2)
      all_goals
        have hne : (Value.slice q2 m2 c2).ownBlock ≠ some g := by
          rcases HN2.out with h | h
          · rw [h]; exact HI3.out.2.2.2
          · rw [h]; intro e; injection e with e; have := block_lt HI3.out.2.1; omega
        have hts : Turn (fun i => i = g) w3 (w3.setCell ⟨g, 2, none⟩ (.slice q2 m2 c2)) := (Turn.refl (fun i => i = g) w3).setCell rfl _ _
        have HF : Hid (IsN (w3.setCell ⟨g, 2, none⟩ (.slice q2 m2 c2)) base g k calm (.slice q2 m2 c2) (all ++ (l.take (j + 1)).map h0)) := Lib.hid (by
          refine ⟨HI3.out.1, heap_setCell_same _ g 2 _ _ _ HR3.out, ?_, hne⟩
          have h1 := recs_turn HO2.out hts (fun b hb e => hne (by rw [hb, e]))
          have h2 := HM2.out
          rw [HTK.out, ← List.append_assoc, List.length_append, h2]
          exact h1)
        have HFT : Hid (Turn (Ft g v) w (w3.setCell ⟨g, 2, none⟩ (.slice q2 m2 c2))) := Lib.hid (((HT3.out.grown HG2.out (fun i hi e => by
          rcases HVB.out with h | ⟨b, h, hb⟩
          · exact .inr (h ▸ e)
          · rw [h] at e; injection e with e; omega))).setCell (.inl rfl) _ _)
        have HFV : Hid ((Value.slice q2 m2 c2).ownBlock = v.ownBlock ∨ ∃ b, (Value.slice q2 m2 c2).ownBlock = some b ∧ w.heap.size ≤ b) := Lib.hid (by
          rcases HN2.out with h | h
          · rw [h]; exact HVB.out
          · exact .inr ⟨_, h, HT3.out.size⟩)
        clear hne hts hc3 hf3 hcg hcx hgl hszx
        generalize (Value.slice q2 m2 c2) = v3 at *
        generalize w3.setCell ⟨g, 2, none⟩ v3 = w4 at *
        go_wp2
        go_roundw
        case rel => exact ⟨j + 1, v3, by omega, by go_num, HF.out, HFT.out, HFV.out⟩
        case measure => simp [intOf]; omega
    · obtain rfl : j = n := by omega
      have HF : Hid (IsN wr base g k calm v' (all ++ l.map h0)) := Lib.hid (by have := HIN.out; rwa [List.take_of_length_le (by have := HN.out; omega)] at this)
      clear hin htu hvb
      go_wp2
      go_ret
      exact ⟨rfl, v', HF.out, HVV.out ▸ HTU.out, HVV.out ▸ HVB.out⟩
end
end Go.Proofs.Ytihilifpadpkbaa
