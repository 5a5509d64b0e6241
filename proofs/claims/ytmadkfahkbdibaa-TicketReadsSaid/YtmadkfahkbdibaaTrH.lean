/- Contract: what a history tells (the reference's Then, 13). -/
import Derived.Test.YtmadkfahkbdibaaTrG
import Derived.Test.YtmadkfahkbdibaaLater
set_option linter.unusedVariables false
set_option linter.unusedSimpArgs false
namespace Go.Proofs.Ytmadkfahkbdibaa
open Go.RowKit

/-- two rows of statuses of the call's own, each in a block of its own -/
structure NThn (w0 wr : World) (nv tv : Value) (N Th : List Int) : Prop where
  n : wr.ownsRow w0.heap.size 35 1 nv N.length (encL stC N)
  t : wr.ownsRow w0.heap.size 35 1 tv Th.length (encL stC Th)
  b : Below w0.heap.size w0 wr
  d : ∀ b, nv.ownBlock = some b → tv.ownBlock ≠ some b
theorem kept_neT {w w' : World} {base e n m : Nat} {v u : Value} {xs : List Value} (h : w.ownsRow base e n v m xs) (hg : w.grownBy w' u.ownBlock) (hne : ∀ b, v.ownBlock = some b → u.ownBlock ≠ some b) : w'.ownsRow base e n v m xs := by
  refine h.kept hg ?_
  cases hb : v.ownBlock with
  | none => exact .inl rfl
  | some b => exact .inr (fun e1 => hne b hb e1.symm)
theorem NThn.below {w0 wr w' : World} {nv tv : Value} {N Th : List Int} (h : NThn w0 wr nv tv N Th) (hb : Below wr.heap.size wr w') : NThn w0 w' nv tv N Th := ⟨recs_below h.n hb, recs_below h.t hb, h.b.trans (hb.mono h.b.size), h.d⟩
theorem NThn.appn {w0 wr w' : World} {nv tv v : Value} {N Th : List Int} {z : Int} (t : NThn w0 wr nv tv N Th) (h : w'.ownsRow w0.heap.size 35 1 v (N.length + [z].length) (encL stC (N ++ [z]))) (hg : wr.grownBy w' nv.ownBlock) (hat : v.ownBlock = nv.ownBlock ∨ v.ownBlock = some wr.heap.size) : NThn w0 w' v tv (N ++ [z]) Th :=
  ⟨by rw [List.length_append]; exact h, kept_neT t.t hg (fun b hb e => t.d b e hb), t.b.grown hg t.b.size (fun b hb => (recs_base t.n hb).1), fun b hb e => by
    rcases hat with h1 | h1
    · exact t.d b (h1 ▸ hb) e
    · rw [h1] at hb; injection hb with hb; have := (recs_base t.t e).2; omega⟩
theorem NThn.appt {w0 wr w' : World} {nv tv v : Value} {N Th : List Int} {z : Int} (t : NThn w0 wr nv tv N Th) (h : w'.ownsRow w0.heap.size 35 1 v (Th.length + [z].length) (encL stC (Th ++ [z]))) (hg : wr.grownBy w' tv.ownBlock) (hat : v.ownBlock = tv.ownBlock ∨ v.ownBlock = some wr.heap.size) : NThn w0 w' nv v N (Th ++ [z]) :=
  ⟨kept_neT t.n hg (fun b hb e => t.d b hb e), by rw [List.length_append]; exact h, t.b.grown hg t.b.size (fun b hb => (recs_base t.t hb).1), fun b hb e => by
    rcases hat with h1 | h1
    · exact t.d b hb (h1 ▸ e)
    · rw [h1] at e; injection e with e; have := (recs_base t.n hb).2; omega⟩
theorem NThn.setn {w0 wr : World} {tv : Value} {N Th : List Int} {b m c i : Nat} {z : Int} (t : NThn w0 wr (.slice (some ⟨b, 0, none⟩) m c) tv N Th) (hi : i < N.length) : NThn w0 (wr.setCell ⟨b, i, none⟩ (.int .i64 z)) (.slice (some ⟨b, 0, none⟩) m c) tv (N.set i z) Th := by
  have hm : m = N.length := by obtain ⟨q, c', hv⟩ := rec_formT t.n; injection hv
  subst hm
  have h1 := own_setCellT (enc := stC) (n := 1) (fun _ => rfl) (j := 0) (u := .int .i64 z) (x' := z) t.n (List.getElem?_eq_getElem hi) (by decide) rfl
  rw [Nat.mul_one, Nat.add_zero] at h1
  refine ⟨by rw [List.length_set]; exact h1, ?_, Only.below t.b (recs_base t.n rfl).1 t.b.size ((Only.refl b wr).setCell i _), t.d⟩
  exact recs_keep t.t (fun b2 hb2 hlt => ((Only.refl b wr).setCell i _).block b2 hlt (fun e => t.d b rfl (by rw [← e]; exact hb2)))
theorem NThn.sett {w0 wr : World} {nv : Value} {N Th : List Int} {b m c i : Nat} {z : Int} (t : NThn w0 wr nv (.slice (some ⟨b, 0, none⟩) m c) N Th) (hi : i < Th.length) : NThn w0 (wr.setCell ⟨b, i, none⟩ (.int .i64 z)) nv (.slice (some ⟨b, 0, none⟩) m c) N (Th.set i z) := by
  have hm : m = Th.length := by obtain ⟨q, c', hv⟩ := rec_formT t.t; injection hv
  subst hm
  have h1 := own_setCellT (enc := stC) (n := 1) (fun _ => rfl) (j := 0) (u := .int .i64 z) (x' := z) t.t (List.getElem?_eq_getElem hi) (by decide) rfl
  rw [Nat.mul_one, Nat.add_zero] at h1
  refine ⟨?_, by rw [List.length_set]; exact h1, Only.below t.b (recs_base t.t rfl).1 t.b.size ((Only.refl b wr).setCell i _), t.d⟩
  exact recs_keep t.n (fun b2 hb2 hlt => ((Only.refl b wr).setCell i _).block b2 hlt (fun e => t.d b2 hb2 (by rw [e]; rfl)))
theorem st_cell {w : World} {base b c i : Nat} {l : List Int} {z : Int} (h : w.ownsRow base 35 1 (.slice (some ⟨b, 0, none⟩) l.length c) l.length (encL stC l)) (hz : l[i]? = some z) : w.cell? ⟨b, i, none⟩ = some (.int .i64 z) ∧ w.frozen? ⟨b, i, none⟩ = false := by
  have := own_cellT (enc := stC) (n := 1) (fun _ => rfl) h hz (j := 0) (by decide)
  rw [Nat.mul_one, Nat.add_zero] at this
  exact this

set_option maxRecDepth 8000 in
set_option maxHeartbeats 8000000 in
theorem rthen_any (t : Tk) (c x h : Sl) (u : Int) (w : World) (ts : TS w t c x h) (hlen : t.cs.length ≤ 1000) (hiss : 0 ≤ t.iss) :
    Calls Try.prog 36 #[.agg #[.int .u64 t.num, .string t.loc, .int .i64 t.iss, .slice c.p c.n c.c, .slice x.p x.n x.c, .int .u64 t.prev, .int .u64 t.org, .int .u64 t.fst, .int .i64 t.vou, .int .i64 t.posts, .slice h.p h.n h.c], .int .i64 u] w fun e w' => ∃ v, e = .returned (.tuple #[v, .bool (Tkt.histB u t)]) ∧ (Tkt.histB u t = true → w'.ownsRow w.heap.size 35 1 v (Tkt.thenL u t).length (List.map (Value.int .i64) (Tkt.thenL u t))) ∧ Below w.heap.size w w' := by
  have HISS : Hid (∀ s, Tkt.toldE u t.cs.length t.iss t.hs = some s → 0 ≤ s.at_) := Lib.hid (fun s hs => by have := (Tkt.toldE_len _ hs).2.2; omega)
  obtain ⟨p1, n, z1⟩ := c
  obtain ⟨p3, m, z3⟩ := h
  simp only at *
  have HTS := Lib.hid ts
  have HN := Lib.hid ts.cs.length
  have HM := Lib.hid ts.hs.length
  have HWF := Lib.hid ts.wf
  have hm2 := ts.hs.length.2
  unfold maxLen at hm2
  have hn20 : n ≤ 1000 := by have := ts.cs.length.1; (try simp only at this); omega
  have HB := Lib.hid ((Below.refl w.heap.size w).alloc (Nat.le_refl _) (.cells #[.int .u64 t.num, .string t.loc, .int .i64 t.iss, .slice p1 n z1, .slice x.p x.n x.c, .int .u64 t.prev, .int .u64 t.org, .int .u64 t.fst, .int .i64 t.vou, .int .i64 t.posts, .slice p3 m z3] 27 (0, 0)))
  have HR := Lib.hid (new_rowW w (.cells #[.int .u64 t.num, .string t.loc, .int .i64 t.iss, .slice p1 n z1, .slice x.p x.n x.c, .int .u64 t.prev, .int .u64 t.org, .int .u64 t.fst, .int .i64 t.vou, .int .i64 t.posts, .slice p3 m z3] 27 (0, 0)) _ rfl)
  clear ts hlen
  go_enter Try.func36, Try.ntmps36
  go_upto_region 2 with fail
  have HNT0 : Hid (NThn w (w.alloc (.cells #[.int .u64 t.num, .string t.loc, .int .i64 t.iss, .slice p1 n z1, .slice x.p x.n x.c, .int .u64 t.prev, .int .u64 t.org, .int .u64 t.fst, .int .i64 t.vou, .int .i64 t.posts, .slice p3 m z3] 27 (0, 0))) (.slice none 0 0) (.slice none 0 0) [] []) := Lib.hid ⟨World.ownsRow_nil _ _ _ _, World.ownsRow_nil _ _ _ _, HB.out, fun b hb => by cases hb⟩
  generalize w.alloc (.cells #[.int .u64 t.num, .string t.loc, .int .i64 t.iss, .slice p1 n z1, .slice x.p x.n x.c, .int .u64 t.prev, .int .u64 t.org, .int .u64 t.fst, .int .i64 t.vou, .int .i64 t.posts, .slice p3 m z3] 27 (0, 0)) = w1 at *
  have hcg := fun j => cell_of_row w1 w.heap.size j _ _ _ HR.out
  go_wp2_with fail
  clear hcg
  go_loopw [6, 7, 8] (fun nv tv i wr => ∃ (k : Nat) (q : Option Addr) (c : Nat) (q2 : Option Addr) (c2 : Nat), k ≤ n ∧ i = .int .i64 k ∧ nv = .slice q k c ∧ tv = .slice q2 k c2 ∧ NThn w wr (.slice q k c) (.slice q2 k c2) (List.replicate k 1) (List.replicate k 1) ∧ wr.heap[w.heap.size]? = some (.cells #[.int .u64 t.num, .string t.loc, .int .i64 t.iss, .slice p1 n z1, .slice x.p x.n x.c, .int .u64 t.prev, .int .u64 t.org, .int .u64 t.fst, .int .i64 t.vou, .int .i64 t.posts, .slice p3 m z3] 27 (0, 0))) (fun _ _ i _ => n - (intOf i).toNat)
  case atStart => exact ⟨0, none, 0, none, 0, Nat.zero_le _, rfl, rfl, rfl, HNT0.out, HR.out⟩
  case round =>
    obtain ⟨k, q, c, q2, c2, hk, rfl, rfl, rfl, hnt, hrw⟩ := hrel
    have HNT := Lib.hid hnt; have HRW := Lib.hid hrw
    clear hnt hrw
    have hcg := fun j => cell_of_row wr w.heap.size j _ _ _ HRW.out
    by_cases hlt : k < n
    · go_upto_region 6 with (at_builtin; refine wpList_append_recs elemSt rfl _ _ rfl w.heap.size (.slice q k c) k (List.replicate k (1 : Int)) rfl (by have h0 := (HNT.out.below ((Below.refl _ _).alloc (Nat.le_refl _) (.cells #[.int .i64 1] 35 (0, 0)))).n; rwa [List.length_replicate] at h0) _ [(1 : Int)] rfl (row_one (enc := stC) (x := (1 : Int)) (new_rowW _ (.cells #[.int .i64 1] 35 (0, 0)) _ rfl) rfl (fun _ => rfl) (by decide)) (by show k + 1 ≤ _; omega) (by have := HNT.out.b.size; simp; omega) ?_; intro vn wnn hown hg hnn hat; have HN2 := Lib.hid ((HNT.out.below ((Below.refl _ _).alloc (Nat.le_refl _) (.cells #[.int .i64 1] 35 (0, 0)))).appn (z := 1) (by rw [List.length_replicate]; exact hown) hg hat); have HRW2 := Lib.hid ((hg.block _ (block_lt (row_after (o' := (.cells #[.int .i64 1] 35 (0, 0))) HRW.out)) (fun e => own_neT ((HNT.out.below ((Below.refl _ _).alloc (Nat.le_refl _) (.cells #[.int .i64 1] 35 (0, 0)))).n) (row_after (o' := (.cells #[.int .i64 1] 35 (0, 0))) HRW.out) (by decide) _ e.symm rfl)).trans (row_after (o' := (.cells #[.int .i64 1] 35 (0, 0))) HRW.out)); clear hown hg hnn hat)
      go_wp2_with (at_builtin; refine wpList_append_recs elemSt rfl _ _ rfl w.heap.size (.slice q2 k c2) k (List.replicate k (1 : Int)) rfl (by have h0 := (HN2.out.below ((Below.refl _ _).alloc (Nat.le_refl _) (.cells #[.int .i64 1] 35 (0, 0)))).t; rwa [List.length_replicate] at h0) _ [(1 : Int)] rfl (row_one (enc := stC) (x := (1 : Int)) (new_rowW _ (.cells #[.int .i64 1] 35 (0, 0)) _ rfl) rfl (fun _ => rfl) (by decide)) (by show k + 1 ≤ _; omega) (by have := HN2.out.b.size; simp; omega) ?_; intro vt wnt hown hg hnn hat; have HN3 := Lib.hid ((HN2.out.below ((Below.refl _ _).alloc (Nat.le_refl _) (.cells #[.int .i64 1] 35 (0, 0)))).appt (z := 1) (by rw [List.length_replicate]; exact hown) hg hat); have HRW3 := Lib.hid ((hg.block _ (block_lt (row_after (o' := (.cells #[.int .i64 1] 35 (0, 0))) HRW2.out)) (fun e => own_neT ((HN2.out.below ((Below.refl _ _).alloc (Nat.le_refl _) (.cells #[.int .i64 1] 35 (0, 0)))).t) (row_after (o' := (.cells #[.int .i64 1] 35 (0, 0))) HRW2.out) (by decide) _ e.symm rfl)).trans (row_after (o' := (.cells #[.int .i64 1] 35 (0, 0))) HRW2.out)); clear hown hg hnn hat)
      go_roundw
      case rel =>
        have h3 := HN3.out
        have e1 : (List.replicate k (1 : Int)) ++ [1] = List.replicate (k + 1) 1 := List.replicate_succ'.symm
        rw [e1] at h3
        have hn3 := h3.n; have ht3 := h3.t
        rw [List.length_replicate] at hn3 ht3
        obtain ⟨qa, ca, rfl⟩ := rec_formT hn3
        obtain ⟨qb, cb, rfl⟩ := rec_formT ht3
        exact ⟨k + 1, qa, ca, qb, cb, by omega, by go_num, rfl, rfl, h3, HRW3.out⟩
      case measure => simp [intOf]; omega
    · obtain rfl : n = k := by omega
      clear hlt
      have HT0 : Hid (Tkt.toldE u n t.iss (t.hs.take 0) = some (Tkt.told0 n t.iss)) := Lib.hid rfl
      go_wp2_with fail
      clear hcg
      have HNT2 : Hid (NThn w wr (.slice q n c) (.slice q2 n c2) (Tkt.told0 n t.iss).now (Tkt.told0 n t.iss).thn) := Lib.hid HNT.out
      go_loopw [9, 10] (fun lv i wr => ∃ (k : Nat) (s : Tkt.Told), k ≤ m ∧ i = .int .i64 k ∧ lv = .int .i64 s.at_ ∧ NThn w wr (.slice q n c) (.slice q2 n c2) s.now s.thn ∧ wr.heap[w.heap.size]? = some (.cells #[.int .u64 t.num, .string t.loc, .int .i64 t.iss, .slice p1 n z1, .slice x.p x.n x.c, .int .u64 t.prev, .int .u64 t.org, .int .u64 t.fst, .int .i64 t.vou, .int .i64 t.posts, .slice p3 m z3] 27 (0, 0)) ∧ Tkt.toldE u n t.iss (t.hs.take k) = some s) (fun _ i _ => m - (intOf i).toNat)
      case atStart => exact ⟨0, Tkt.told0 n t.iss, Nat.zero_le _, rfl, rfl, HNT2.out, HRW.out, HT0.out⟩
      case round =>
        obtain ⟨k, s, hk, rfl, rfl, hnt, hrw, hts⟩ := hrel
        have HNS := Lib.hid hnt; have HRS := Lib.hid hrw; have HTK := Lib.hid hts
        clear hnt hrw hts
        have HLN := Lib.hid (Tkt.toldE_len _ HTK.out)
        have hcg := fun j => cell_of_row wr w.heap.size j _ _ _ HRS.out
        by_cases hlt : k < m
        · obtain ⟨e_, he⟩ : ∃ e, t.hs[k]? = some e := ⟨_, List.getElem?_eq_getElem (by have := HM.out.1; (try simp only at this); omega)⟩
          obtain ⟨bb, o, hp, hbl, hr⟩ := (HTS.out.hs.below HNS.out.b).at he
          subst hp
          have HE := Lib.hid he
          have HSN : Hid (Tkt.toldE u n t.iss (t.hs.take (k + 1)) = Tkt.stepE u (some s) e_) := Lib.hid (by rw [List.take_add_one, he]; show Tkt.toldE u n t.iss (t.hs.take k ++ [e_]) = _; rw [Tkt.toldE_snoc, HTK.out])
          have x0 : wr.cell? ⟨bb, o + k * 4, none⟩ = some (.int .i64 e_.dy) := hr 0 _ rfl
          have x1 : wr.cell? ⟨bb, o + k * 4 + 1, none⟩ = some (.int .i64 e_.co) := hr 1 _ rfl
          have x2 : wr.cell? ⟨bb, o + k * 4 + 2, none⟩ = some (.int .i64 e_.fr) := hr 2 _ rfl
          have x3 : wr.cell? ⟨bb, o + k * 4 + 3, none⟩ = some (.int .i64 e_.to) := hr 3 _ rfl
          have hwe := HWF.out.hs e_ (List.mem_of_getElem? he)
          obtain ⟨-, ⟨we1, we2⟩, -, -⟩ := hwe
          clear he hr
          go_upto_region 12 with fail
          have HN5 := Lib.hid (HNS.out.below ((Below.refl _ _).alloc (Nat.le_refl _) (.cells #[.int .i64 e_.dy, .int .i64 e_.co, .int .i64 e_.fr, .int .i64 e_.to] 46 (0, 0))))
          have HRG5 := Lib.hid (row_after (o' := (.cells #[.int .i64 e_.dy, .int .i64 e_.co, .int .i64 e_.fr, .int .i64 e_.to] 46 (0, 0))) HRS.out)
          have HEV := Lib.hid (new_rowW wr (.cells #[.int .i64 e_.dy, .int .i64 e_.co, .int .i64 e_.fr, .int .i64 e_.to] 46 (0, 0)) _ rfl)
          have HGE : Hid (w.heap.size ≤ wr.heap.size) := Lib.hid HNS.out.b.size
          clear x0 x1 x2 x3 hcg
          generalize wr.heap.size = ge at *
          generalize wr.alloc (.cells #[.int .i64 e_.dy, .int .i64 e_.co, .int .i64 e_.fr, .int .i64 e_.to] 46 (0, 0)) = w5 at *
          have y0 : w5.cell? ⟨ge, 0, none⟩ = some (.int .i64 e_.dy) := cell_of_row _ _ 0 _ _ _ HEV.out
          have y1 : w5.cell? ⟨ge, 1, none⟩ = some (.int .i64 e_.co) := cell_of_row _ _ 1 _ _ _ HEV.out
          have y2 : w5.cell? ⟨ge, 2, none⟩ = some (.int .i64 e_.fr) := cell_of_row _ _ 2 _ _ _ HEV.out
          have y3 : w5.cell? ⟨ge, 3, none⟩ = some (.int .i64 e_.to) := cell_of_row _ _ 3 _ _ _ HEV.out
          have l0 := block_lt HEV.out
          have HLD := Lib.hid (fun W => leads12_any e_.fr e_.to W)
          have HBAD : Hid (Tkt.evOk s e_ = false → Tkt.histB u t = false) := Lib.hid (fun hq => by
            have h1 := HSN.out
            rw [show Tkt.stepE u (some s) e_ = none by show (if Tkt.evOk s e_ = true then _ else _) = _; rw [hq]; rfl] at h1
            unfold Tkt.histB
            rw [show t.cs.length = n from HN.out.1.symm, Tkt.toldE_none (k + 1) h1])
          have hL := @Later.cell
          have hln : s.now.length = n := HLN.out.1
          by_cases h1 : e_.co < 1
          · have d1 : decide (e_.co < 1) = true := decide_eq_true h1
            have HF := Lib.hid (HBAD.out (by unfold Tkt.evOk; rw [show decide (1 ≤ e_.co) = false from decide_eq_false (by omega)]; simp only [Bool.false_and]))
            refine wp_region_later (by kernel_rfl) (by kernel_rfl) ?_
            repeat (go_big_quiet_step (first | (go_at_call 54; with_reducible exact later_call (HLD.out _))))
            refine wpQuiet_nil ?_
            rintro wz ⟨u', rfl⟩
            have HN6 := Lib.hid (HN5.out.below u'.prop)
            have HR6 := Lib.hid ((u'.prop.block _ (block_lt HRG5.out)).trans HRG5.out)
            have HE6 := Lib.hid ((u'.prop.block _ (block_lt HEV.out)).trans HEV.out)
            generalize u'.val = w6 at *
            clear y0 y1 y2 y3 l0 hL
            go_wp2
            go_ret2
            exact ⟨.slice none 0 0, by rw [HF.out]; rfl, fun h => (by rw [HF.out] at h; cases h), HN6.out.b⟩
          by_cases h2 : (n : Int) < e_.co
          · have d1 : decide (e_.co < 1) = false := decide_eq_false h1
            have d2 : decide ((n : Int) < e_.co) = true := decide_eq_true h2
            have HF := Lib.hid (HBAD.out (by unfold Tkt.evOk; rw [show decide (e_.co ≤ (s.now.length : Int)) = false from decide_eq_false (by omega)]; simp only [Bool.false_and, Bool.and_false]))
            refine wp_region_later (by kernel_rfl) (by kernel_rfl) ?_
            repeat (go_big_quiet_step (first | (go_at_call 54; with_reducible exact later_call (HLD.out _))))
            refine wpQuiet_nil ?_
            rintro wz ⟨u', rfl⟩
            have HN6 := Lib.hid (HN5.out.below u'.prop)
            have HR6 := Lib.hid ((u'.prop.block _ (block_lt HRG5.out)).trans HRG5.out)
            have HE6 := Lib.hid ((u'.prop.block _ (block_lt HEV.out)).trans HEV.out)
            generalize u'.val = w6 at *
            clear y0 y1 y2 y3 l0 hL
            go_wp2
            go_ret2
            exact ⟨.slice none 0 0, by rw [HF.out]; rfl, fun h => (by rw [HF.out] at h; cases h), HN6.out.b⟩
          obtain ⟨i, hi⟩ : ∃ i : Nat, e_.co = (i : Int) + 1 := ⟨(e_.co - 1).toNat, by omega⟩
          have hin : i < n := by omega
          have HI := Lib.hid hi
          have hwr : IntKind.i64.wrap (e_.co - 1) = i := by rw [IntKind.wrap_i64]; omega
          have d1 : decide (e_.co < 1) = false := decide_eq_false h1
          have d2 : decide ((n : Int) < e_.co) = false := decide_eq_false h2
          have hev : ∀ q3 : Bool, (decide (s.at_ ≤ e_.dy) && decide (e_.dy ≤ 1000000) && decide (e_.fr = s.now.getD i 0) && Tkt.leadsB e_.fr e_.to) = q3 → Tkt.evOk s e_ = q3 := fun q3 h => by
            unfold Tkt.evOk
            rw [show decide (1 ≤ e_.co) = true from decide_eq_true (by omega), show decide (e_.co ≤ (s.now.length : Int)) = true from decide_eq_true (by omega), show e_.co.toNat - 1 = i by omega]
            simpa only [Bool.true_and] using h
          have HEVQ := Lib.hid hev
          clear hev h1 h2 hi
          by_cases h3 : e_.dy < s.at_
          · have d3 : decide (e_.dy < s.at_) = true := decide_eq_true h3
            have HF := Lib.hid (HBAD.out (by refine HEVQ.out _ ?_; rw [show decide (s.at_ ≤ e_.dy) = false from decide_eq_false (by omega)]; simp only [Bool.false_and]))
            refine wp_region_later (by kernel_rfl) (by kernel_rfl) ?_
            repeat (go_big_quiet_step (first | (go_at_call 54; with_reducible exact later_call (HLD.out _))))
            refine wpQuiet_nil ?_
            rintro wz ⟨u', rfl⟩
            have HN6 := Lib.hid (HN5.out.below u'.prop)
            have HR6 := Lib.hid ((u'.prop.block _ (block_lt HRG5.out)).trans HRG5.out)
            have HE6 := Lib.hid ((u'.prop.block _ (block_lt HEV.out)).trans HEV.out)
            generalize u'.val = w6 at *
            clear y0 y1 y2 y3 l0 hL
            go_wp2
            go_ret2
            exact ⟨.slice none 0 0, by rw [HF.out]; rfl, fun h => (by rw [HF.out] at h; cases h), HN6.out.b⟩
          have d3 : decide (e_.dy < s.at_) = false := decide_eq_false h3
          by_cases h4 : 1000000 < e_.dy
          · have d4 : decide (1000000 < e_.dy) = true := decide_eq_true h4
            have HF := Lib.hid (HBAD.out (by refine HEVQ.out _ ?_; rw [show decide (e_.dy ≤ 1000000) = false from decide_eq_false (by omega)]; simp only [Bool.false_and, Bool.and_false]))
            clear h3
            refine wp_region_later (by kernel_rfl) (by kernel_rfl) ?_
            repeat (go_big_quiet_step (first | (go_at_call 54; with_reducible exact later_call (HLD.out _))))
            refine wpQuiet_nil ?_
            rintro wz ⟨u', rfl⟩
            have HN6 := Lib.hid (HN5.out.below u'.prop)
            have HR6 := Lib.hid ((u'.prop.block _ (block_lt HRG5.out)).trans HRG5.out)
            have HE6 := Lib.hid ((u'.prop.block _ (block_lt HEV.out)).trans HEV.out)
            generalize u'.val = w6 at *
            clear y0 y1 y2 y3 l0 hL
            go_wp2
            go_ret2
            exact ⟨.slice none 0 0, by rw [HF.out]; rfl, fun h => (by rw [HF.out] at h; cases h), HN6.out.b⟩
          have d4 : decide (1000000 < e_.dy) = false := decide_eq_false h4
          have H34 : Hid (s.at_ ≤ e_.dy ∧ e_.dy ≤ 1000000) := Lib.hid (by omega)
          clear h3 h4
          obtain ⟨z, hz⟩ : ∃ z, s.now[i]? = some z := ⟨_, List.getElem?_eq_getElem (by omega)⟩
          have HZ := Lib.hid hz
          have hzd : s.now.getD i 0 = z := by rw [List.getD_eq_getElem?_getD, hz]; rfl
          have HZD := Lib.hid hzd
          obtain ⟨nb, nc, hnv⟩ := own_someT HN5.out.n (by omega)
          injection hnv with e1 e2 e3
          subst e1
          have HN5n := Lib.hid HN5.out.n
          have kn : w5.cell? ⟨nb, i, none⟩ = some (.int .i64 z) := (st_cell (c := c) (by have := HN5.out.n; rw [hln] at this ⊢; exact this) hz).1
          have l1 := cell_blockW kn
          clear hz hzd e2 e3
          obtain ⟨q5, hq5⟩ : ∃ q, (e_.fr != z) = q := ⟨_, rfl⟩
          have HQ5 := Lib.hid hq5
          cases q5
          · by_cases h6 : Tkt.leadsB e_.fr e_.to = true
            · have HOK : Hid (Tkt.evOk s e_ = true) := Lib.hid (HEVQ.out _ (by
                have hf : e_.fr = z := by have := HQ5.out; rw [bne_eq_false_iff_eq] at this; exact this
                rw [HZD.out, h6, decide_eq_true H34.out.1, decide_eq_true H34.out.2, decide_eq_true hf]; rfl))
              rw [h6] at HLD
              clear h6
              refine wp_region_later (by kernel_rfl) (by kernel_rfl) ?_
              repeat (go_big_quiet_step (first | (go_at_call 54; with_reducible exact later_call (HLD.out _))))
              refine wpQuiet_nil ?_
              rintro wz ⟨u', rfl⟩
              have HN6 := Lib.hid (HN5.out.below u'.prop)
              have HR6 := Lib.hid ((u'.prop.block _ (block_lt HRG5.out)).trans HRG5.out)
              have HE6 := Lib.hid ((u'.prop.block _ (block_lt HEV.out)).trans HEV.out)
              generalize u'.val = w6 at *
              clear y0 y1 y2 y3 l0 hL
              clear kn l1
              have HSE : Hid (Tkt.toldE u n t.iss (t.hs.take (k + 1)) = some (Tkt.evDo u s e_)) := Lib.hid (by rw [HSN.out]; show (if Tkt.evOk s e_ = true then _ else _) = _; rw [if_pos HOK.out])
              have g0 := fun j => cell_of_row w6 ge j _ _ _ HE6.out
              have kn := (st_cell (c := c) (by have := HN6.out.n; rw [hln] at this ⊢; exact this) HZ.out).1
              have kf := (st_cell (c := c) (by have := HN6.out.n; rw [hln] at this ⊢; exact this) HZ.out).2
              go_upto_region 15 with fail
              have hsz : i < s.now.length := by omega
              have HN7 := Lib.hid (HN6.out.setn (i := i) (z := e_.to) hsz)
              have HON := Lib.hid ((Only.refl nb w6).setCell i (.int .i64 e_.to))
              have hng : nb ≠ w.heap.size := own_neT HN6.out.n HR6.out (by decide) nb rfl
              have hne : nb ≠ ge := own_neT HN6.out.n HE6.out (by decide) nb rfl
              have HR7 := Lib.hid ((HON.out.block _ (block_lt HR6.out) (Ne.symm hng)).trans HR6.out)
              have HE7 := Lib.hid ((HON.out.block _ (block_lt HE6.out) (Ne.symm hne)).trans HE6.out)
              clear g0 kn kf hng hne hsz
              generalize w6.setCell ⟨nb, i, none⟩ (.int .i64 e_.to) = w7 at *
              have g0 := fun j => cell_of_row w7 ge j _ _ _ HE7.out
              have hlt2 : s.thn.length = n := HLN.out.2.1
              by_cases hu : e_.dy ≤ u
              · obtain ⟨tb, tc, htv⟩ := own_someT HN7.out.t (by omega)
                injection htv with e1 e2 e3
                subst e1
                clear e2 e3
                obtain ⟨z2, hz2⟩ : ∃ z, s.thn[i]? = some z := ⟨_, List.getElem?_eq_getElem (by omega)⟩
                have kt := (st_cell (c := c2) (by have := HN7.out.t; rw [hlt2] at this ⊢; exact this) hz2).1
                have kf := (st_cell (c := c2) (by have := HN7.out.t; rw [hlt2] at this ⊢; exact this) hz2).2
                have hsz : i < s.thn.length := by omega
                have HN8 := Lib.hid (HN7.out.sett (i := i) (z := e_.to) hsz)
                have HON2 := Lib.hid ((Only.refl tb w7).setCell i (.int .i64 e_.to))
                have htg : tb ≠ w.heap.size := own_neT HN7.out.t HR7.out (by decide) tb rfl
                have hte : tb ≠ ge := own_neT HN7.out.t HE7.out (by decide) tb rfl
                have HR8 := Lib.hid ((HON2.out.block _ (block_lt HR7.out) (Ne.symm htg)).trans HR7.out)
                have HE8 := Lib.hid ((HON2.out.block _ (block_lt HE7.out) (Ne.symm hte)).trans HE7.out)
                clear hz2 hsz htg hte
                go_upto_region 17 with fail
                generalize w7.setCell ⟨tb, i, none⟩ (.int .i64 e_.to) = w8 at *
                clear g0 kt kf
                have g0 := fun j => cell_of_row w8 ge j _ _ _ HE8.out
                go_wp2_with fail
                go_roundw
                case rel =>
                  refine ⟨k + 1, Tkt.evDo u s e_, by omega, by go_num, rfl, ?_, HR8.out, HSE.out⟩
                  have h8 := HN8.out
                  unfold Tkt.evDo
                  rw [show e_.co.toNat - 1 = i by have := HI.out; omega, if_pos hu]
                  exact h8
                case measure => simp [intOf]; omega
              · go_wp2_with fail
                go_roundw
                case rel =>
                  refine ⟨k + 1, Tkt.evDo u s e_, by omega, by go_num, rfl, ?_, HR7.out, HSE.out⟩
                  have h7 := HN7.out
                  unfold Tkt.evDo
                  rw [show e_.co.toNat - 1 = i by have := HI.out; omega, if_neg hu]
                  exact h7
                case measure => simp [intOf]; omega
            · have h6b : Tkt.leadsB e_.fr e_.to = false := by simpa using h6
              rw [h6b] at HLD
              have HF := Lib.hid (HBAD.out (by refine HEVQ.out _ ?_; rw [h6b]; simp only [Bool.and_false]))
              clear h6
              refine wp_region_later (by kernel_rfl) (by kernel_rfl) ?_
              repeat (go_big_quiet_step (first | (go_at_call 54; with_reducible exact later_call (HLD.out _))))
              refine wpQuiet_nil ?_
              rintro wz ⟨u', rfl⟩
              have HN6 := Lib.hid (HN5.out.below u'.prop)
              have HR6 := Lib.hid ((u'.prop.block _ (block_lt HRG5.out)).trans HRG5.out)
              have HE6 := Lib.hid ((u'.prop.block _ (block_lt HEV.out)).trans HEV.out)
              generalize u'.val = w6 at *
              clear y0 y1 y2 y3 l0 hL
              go_wp2
              go_ret2
              exact ⟨.slice none 0 0, by rw [HF.out]; rfl, fun h => (by rw [HF.out] at h; cases h), HN6.out.b⟩
          · have HF := Lib.hid (HBAD.out (by refine HEVQ.out _ ?_; rw [HZD.out, show decide (e_.fr = z) = false from decide_eq_false (by have := HQ5.out; simpa using this)]; simp only [Bool.false_and, Bool.and_false]))
            refine wp_region_later (by kernel_rfl) (by kernel_rfl) ?_
            repeat (go_big_quiet_step (first | (go_at_call 54; with_reducible exact later_call (HLD.out _))))
            refine wpQuiet_nil ?_
            rintro wz ⟨u', rfl⟩
            have HN6 := Lib.hid (HN5.out.below u'.prop)
            have HR6 := Lib.hid ((u'.prop.block _ (block_lt HRG5.out)).trans HRG5.out)
            have HE6 := Lib.hid ((u'.prop.block _ (block_lt HEV.out)).trans HEV.out)
            generalize u'.val = w6 at *
            clear y0 y1 y2 y3 l0 hL
            go_wp2
            go_ret2
            exact ⟨.slice none 0 0, by rw [HF.out]; rfl, fun h => (by rw [HF.out] at h; cases h), HN6.out.b⟩
        · obtain rfl : m = k := by omega
          clear hlt
          have HTE : Hid (Tkt.toldE u n t.iss t.hs = some s) := Lib.hid (by have := HTK.out; rwa [List.take_of_length_le (by have := HM.out.1; (try simp only at this); omega)] at this)
          have HNR : Hid (NThn w wr (.slice q n c) (.slice q2 n c2) s.now s.thn) := HNS
          go_wp2_with fail
          go_loopw [12] (fun i wx => ∃ j : Nat, j ≤ n ∧ i = .int .i64 j ∧ Below wr.heap.size wr wx ∧ ∀ (l : Nat) (y : Cpn), l < j → t.cs[l]? = some y → y.st = s.now.getD l 0) (fun i _ => n - (intOf i).toNat)
          case atStart => exact ⟨0, Nat.zero_le _, rfl, Below.refl _ _, fun l y h => absurd h (Nat.not_lt_zero _)⟩
          case round =>
            obtain ⟨j, hj, rfl, hbx, hall⟩ := hrel
            have HBX := Lib.hid hbx; have HALL := Lib.hid hall
            have HN9 := Lib.hid (HNR.out.below hbx)
            have HR9 := Lib.hid ((hbx.block _ (block_lt HRS.out)).trans HRS.out)
            clear hbx hall
            try clear hcg
            have hcg := fun j => cell_of_row wr w.heap.size j _ _ _ HR9.out
            have hln : s.now.length = n := HLN.out.1
            by_cases hlt : j < n
            · obtain ⟨y, hy⟩ : ∃ y, t.cs[j]? = some y := ⟨_, List.getElem?_eq_getElem (by have := HN.out.1; (try simp only at this); omega)⟩
              obtain ⟨bb, o, hp, hbl, hr⟩ := (HTS.out.cs.below HN9.out.b).at hy
              subst hp
              have HY := Lib.hid hy
              have x3 : wr.cell? ⟨bb, o + j * 6 + 3, none⟩ = some (.int .i64 y.st) := hr 3 _ rfl
              obtain ⟨z, hz⟩ : ∃ z, s.now[j]? = some z := ⟨_, List.getElem?_eq_getElem (by omega)⟩
              have HZ := Lib.hid hz
              obtain ⟨nb, nc, hnv⟩ := own_someT HN9.out.n (by omega)
              injection hnv with e1 e2 e3
              subst e1
              have kn : wr.cell? ⟨nb, j, none⟩ = some (.int .i64 z) := (st_cell (c := c) (by have := HN9.out.n; rw [hln] at this ⊢; exact this) hz).1
              clear hy hr hz e2 e3
              obtain ⟨qq, hqq⟩ : ∃ q, (z != y.st) = q := ⟨_, rfl⟩
              have HQQ := Lib.hid hqq
              cases qq
              · go_wp2_with fail
                go_region
                go_wp2
                go_roundw
                case rel =>
                  refine ⟨j + 1, by omega, by go_num, HBX.out.drew, fun l y2 hl hy2 => ?_⟩
                  rcases Nat.lt_or_ge l j with h | h
                  · exact HALL.out l y2 h hy2
                  · obtain rfl : l = j := by omega
                    have h2 := HY.out.symm.trans hy2
                    injection h2 with h2
                    have h3 := HQQ.out
                    rw [bne_eq_false_iff_eq] at h3
                    rw [← h2, ← h3, List.getD_eq_getElem?_getD, HZ.out]; rfl
                case measure => simp [intOf]; omega
              · have HF : Hid (Tkt.histB u t = false) := Lib.hid (by
                  unfold Tkt.histB
                  rw [show t.cs.length = n from HN.out.1.symm, HTE.out]
                  refine decide_eq_false (fun he => ?_)
                  have h3 := HQQ.out
                  rw [bne_iff_ne] at h3
                  refine h3 ?_
                  have h4 := HZ.out
                  rw [he, List.getElem?_map, HY.out] at h4
                  injection h4 with h4
                  exact h4.symm)
                go_wp2_with fail
                go_region
                go_wp2
                go_ret2
                exact ⟨.slice none 0 0, by rw [HF.out]; rfl, fun h => (by rw [HF.out] at h; cases h), HN9.out.b.trans (Below.refl _ _).drew⟩
            · obtain rfl : n = j := by omega
              clear hlt
              have HH := Lib.hid (toldAt_end (t := t) (G := true) (Q := true) (s := s) (u := u) ⟨fun _ => by rw [show t.cs.length = n from HN.out.1.symm, List.take_length]; exact HTE.out, (fun h => by cases h), HISS.out s (by rw [show t.cs.length = n from HN.out.1.symm]; exact HTE.out)⟩ (by rw [show t.cs.length = n from HN.out.1.symm]; exact HLN.out.1) ⟨fun _ => ⟨rfl, fun l y hl hy => HALL.out l y (by have := HN.out.1; (try simp only at this); omega) hy⟩, fun _ => rfl⟩)
              go_wp2
              go_ret2
              refine ⟨.slice q2 n c2, by rw [← HH.out.1]; rfl, fun _ => ?_, HN9.out.b⟩
              have h5 := HN9.out.t
              rw [HH.out.2 (by first | rfl | trivial)] at h5
              rw [encL_st] at h5
              exact h5
end Go.Proofs.Ytmadkfahkbdibaa
