/- Contract: desk.Refund. -/
import Derived.Test.YtadabjkhiaidcaaDsl35
import Derived.Test.YtadabjkhiaidcaaDsl40
import Derived.Test.YtadabjkhiaidcaaDsl41

set_option linter.unusedVariables false
set_option linter.unusedSimpArgs false
namespace Go.Proofs.Ytadabjkhiaidcaa
open Go.ChangeShapes Go.WideShapes Go.ChangeAt Go.RowKit Go.Deep

attribute [local go_sem ↓] Tk_execLoad Tk_execStore

attribute [local go_sem] Tk_load Tk_store loL_drew okL_drew there_sc World.there_drew

/-- what a refund makes -/
def Dk.refundD (t : Tk) (pen on : Int) : Tk × List Pst × Int :=
  if Dk.openE t on = 2 ∨ Tkt.someB pen = false then (Tkt.zTk, [], 2)
  else if ¬ Dk.openE t on = 0 then (Tkt.zTk, [], Dk.openE t on)
  else if t.cs.any (Dk.selBack 0) = false then (Tkt.zTk, [], 9)
  else if Dk.valN [1, 8] t.cs + Dk.freeN [1, 8] t < pen then (Tkt.zTk, [], 14)
  else if ¬ (Dk.chgD Dk.selBack on 6 0 t).2 = 0 then (Tkt.zTk, [], (Dk.chgD Dk.selBack on 6 0 t).2)
  else Dk.postD (Dk.chgD Dk.selBack on 6 0 t).1 ⟨on, 0, 0, 4, pen - Dk.valN [1, 8] t.cs - Dk.freeN [1, 8] t, Dk.valN [1, 8] t.cs, 0, Dk.freeN [1, 8] t, -pen, 0⟩
theorem Dk.freeN_bound (gone : List Int) (t : Tk) (h : ∀ y ∈ t.ts, 0 ≤ y.am ∧ y.am ≤ 1000000000000) : 0 ≤ Dk.freeN gone t ∧ Dk.freeN gone t ≤ (t.ts.length : Int) * 1000000000000 := by
  have := Tkt.taxI_bound t.ts h
  unfold Dk.freeN
  split <;> omega
/-- what a ticket that may be says of its amounts -/
theorem Dk.may_amounts {t : Tk} (h : Tkt.mayB t = true) : (∀ y ∈ t.cs, 0 ≤ y.va ∧ y.va ≤ 1000000000000) ∧ (∀ y ∈ t.ts, 0 ≤ y.am ∧ y.am ≤ 1000000000000) := by
  unfold Tkt.mayB at h
  simp only [Bool.and_eq_true] at h
  obtain ⟨⟨⟨-, h1⟩, h2⟩, -⟩ := h
  constructor
  · intro y hy
    have h3 := List.all_eq_true.1 h1 y hy
    unfold Tkt.cpnB Tkt.someB at h3
    simp only [Bool.and_eq_true, decide_eq_true_eq] at h3
    exact h3.1.1.1.2
  · have key : ∀ (l : List Txx) (c : Int), Tkt.taxB c l = true → ∀ y ∈ l, 0 ≤ y.am ∧ y.am ≤ 1000000000000 := by
      intro l
      induction l with
      | nil => intro c _ y hy; cases hy
      | cons a r ih =>
        intro c hc y hy
        unfold Tkt.taxB Tkt.someB at hc
        simp only [Bool.and_eq_true, decide_eq_true_eq] at hc
        rcases List.mem_cons.1 hy with rfl | hy
        · exact hc.1.2
        · exact ih _ hc.2 y hy
    exact key t.ts 1 h2
set_option maxHeartbeats 1000000 in
theorem dref2_any (y : Cpn) (gb : Nat) (w : World) (hc : w.cell? ⟨gb, 0, none⟩ = some (.func (.func 52) #[] #[])) : Calls Try.prog 54 #[.agg #[.int .i64 y.fl, .int .i64 y.dy, .int .i64 y.va, .int .i64 y.st, .int .i64 y.ho, .int .u64 y.nx], .pointer (some ⟨gb, 0, none⟩)] w fun e w' => e = .returned (.bool (Dk.selBack 0 y)) ∧ Below w.heap.size w w' := by
  have hb := (Below.refl w.heap.size w).alloc (Nat.le_refl _) (.cells #[.int .i64 y.fl, .int .i64 y.dy, .int .i64 y.va, .int .i64 y.st, .int .i64 y.ho, .int .u64 y.nx] 37 (0, 0))
  have HB := Lib.hid hb
  have hr := new_rowW w (.cells #[.int .i64 y.fl, .int .i64 y.dy, .int .i64 y.va, .int .i64 y.st, .int .i64 y.ho, .int .u64 y.nx] 37 (0, 0)) _ rfl
  have hcs := fun j => cell_of_row _ w.heap.size j _ _ _ hr
  have kq := (hb.cell (p := ⟨gb, 0, none⟩) (cell_blockW hc)).trans hc
  have HC := Lib.hid (back1_any 0 y (w.alloc (.cells #[.int .i64 y.fl, .int .i64 y.dy, .int .i64 y.va, .int .i64 y.st, .int .i64 y.ho, .int .u64 y.nx] 37 (0, 0))))
  clear hb hc hr
  go_enter Try.func54, Try.ntmps54
  go_wp2_with fail
  refine HC.out.mono ?_
  rintro e w1 ⟨rfl, hb1⟩
  have HB1 := Lib.hid (HB.out.trans (hb1.mono HB.out.size))
  clear hb1 kq hcs
  go_wp2
  go_ret
  exact ⟨rfl, HB1.out⟩

set_option maxRecDepth 4000 in
set_option maxHeartbeats 1000000 in
theorem hasBackI_any (l : List Cpn) (q : Cpn → Bool) (bv : Bool) (hbv : bv = true ↔ ∃ x ∈ l, q x = true) (p : Option Addr) (n cap : Nat) (gb : Nat) (w : World) (hs : LS Cpn.cells 6 w (.slice p n cap) l)
    (hc : ∀ x ∈ l, ∀ W, Below w.heap.size w W → Calls Try.prog 54 #[.agg #[.int .i64 x.fl, .int .i64 x.dy, .int .i64 x.va, .int .i64 x.st, .int .i64 x.ho, .int .u64 x.nx], .pointer (some ⟨gb, 0, none⟩)] W fun e w' => e = .returned (.bool (q x)) ∧ Below W.heap.size W w') :
    Calls Try.prog 77 #[.slice p n cap, .func (.func 54) #[] #[.pointer (some ⟨gb, 0, none⟩)]] w fun e w' => (∃ j : Int, e = .returned (.int .i64 j) ∧ decide (0 ≤ j) = bv) ∧ Below w.heap.size w w' := by
  have HPS := Lib.hid hs; have HN := Lib.hid hs.length.1
  have hn1 := hs.length.2.1
  have hn2 := hs.length.2.2
  unfold maxLen at hn2
  have HBV := Lib.hid hbv; have HC := Lib.hid hc
  clear hs hbv hc
  go_enter Try.func77, Try.ntmps77
  go_wp2
  go_loopw [8] (fun i wr => ∃ k : Nat, k ≤ n ∧ i = .int .i64 k ∧ (∀ (j : Nat) (x : Cpn), j < k → l[j]? = some x → q x = false) ∧ Below w.heap.size w wr) (fun i _ => n - (intOf i).toNat)
  case atStart => exact ⟨0, Nat.zero_le _, rfl, fun j x h => absurd h (Nat.not_lt_zero _), Below.refl _ _⟩
  case round =>
    obtain ⟨k, hk, rfl, hall, hbw⟩ := hrel
    have HALL := Lib.hid hall; have HBW := Lib.hid hbw
    clear hall
    by_cases hlt : k < n
    · obtain ⟨x, hx⟩ : ∃ x, l[k]? = some x := ⟨_, List.getElem?_eq_getElem (by have := HN.out; omega)⟩
      obtain ⟨bb, o, rfl, hbl, hr⟩ := (HPS.out.below hbw).at hx
      have HX := Lib.hid hx
      have HW := Lib.hid (HC.out x (List.mem_of_getElem? hx))
      have c0 : wr.cell? ⟨bb, o + k * 6, none⟩ = some (.int .i64 x.fl) := hr 0 _ rfl
      have c1 : wr.cell? ⟨bb, o + k * 6 + 1, none⟩ = some (.int .i64 x.dy) := hr 1 _ rfl
      have c2 : wr.cell? ⟨bb, o + k * 6 + 2, none⟩ = some (.int .i64 x.va) := hr 2 _ rfl
      have c3 : wr.cell? ⟨bb, o + k * 6 + 3, none⟩ = some (.int .i64 x.st) := hr 3 _ rfl
      have c4 : wr.cell? ⟨bb, o + k * 6 + 4, none⟩ = some (.int .i64 x.ho) := hr 4 _ rfl
      have c5 : wr.cell? ⟨bb, o + k * 6 + 5, none⟩ = some (.int .u64 x.nx) := hr 5 _ rfl
      clear hx hbw hr
      obtain ⟨y, hy⟩ : ∃ y, q x = y := ⟨_, rfl⟩
      rw [hy] at HW
      have HY := Lib.hid hy
      clear hy
      go_wp2_with fail
      refine (HW.out _ HBW.out).mono ?_
      rintro e w1 ⟨rfl, hb1⟩
      have HBW1 := Lib.hid (HBW.out.trans (hb1.mono HBW.out.size))
      clear hb1
      clear c0 c1 c2 c3 c4 c5
      cases y
      · go_wp2
        go_roundw
        case rel =>
          refine ⟨k + 1, by omega, by go_num, fun j z hj hz => ?_, HBW1.out⟩
          rcases Nat.lt_or_ge j k with h | h
          · exact HALL.out j z h hz
          · obtain rfl : j = k := by omega
            have := HX.out.symm.trans hz
            injection this with this
            rw [← this]
            exact HY.out
        case measure => simp [intOf]; omega
      · go_wp2
        go_ret
        refine ⟨⟨k, rfl, ?_⟩, HBW1.out⟩
        have := HBV.out.2 ⟨x, List.mem_of_getElem? HX.out, HY.out⟩
        rw [this]; simp
    · obtain rfl : k = n := by omega
      clear hbw
      go_wp2
      go_ret
      refine ⟨⟨-1, rfl, ?_⟩, HBW.out⟩
      cases bv
      · rfl
      · obtain ⟨x, hx, h1⟩ := HBV.out.1 rfl
        obtain ⟨j, hj⟩ := List.getElem?_of_mem hx
        have := HALL.out j x (by have := (List.getElem?_eq_some_iff.1 hj).1; have := HN.out; omega) hj
        rw [h1] at this
        cases this
theorem hasBack_any (l : List Cpn) (q : Cpn → Bool) (bv : Bool) (hbv : bv = true ↔ ∃ x ∈ l, q x = true) (p : Option Addr) (n cap : Nat) (gb : Nat) (w : World) (hs : LS Cpn.cells 6 w (.slice p n cap) l)
    (hc : ∀ x ∈ l, ∀ W, Below w.heap.size w W → Calls Try.prog 54 #[.agg #[.int .i64 x.fl, .int .i64 x.dy, .int .i64 x.va, .int .i64 x.st, .int .i64 x.ho, .int .u64 x.nx], .pointer (some ⟨gb, 0, none⟩)] W fun e w' => e = .returned (.bool (q x)) ∧ Below W.heap.size W w') :
    Calls Try.prog 47 #[.slice p n cap, .func (.func 54) #[] #[.pointer (some ⟨gb, 0, none⟩)]] w fun e w' => e = .returned (.bool bv) ∧ Below w.heap.size w w' := by
  have H := Lib.hid (hasBackI_any l q bv hbv p n cap gb w hs hc)
  clear hs hc hbv
  go_enter Try.func47, Try.ntmps47
  go_wp2_with fail
  refine H.out.mono ?_
  rintro e w1 ⟨⟨j, rfl, hj⟩, hb1⟩
  go_wp2
  go_ret
  exact ⟨rfl, hb1⟩

theorem ls_rowG {α : Type} {enc : α → List Value} {n g : Nat} {W : World} {cs : Array Value} {e : TypeId} {l : List α} (hr : W.heap[g]? = some (.cells cs e (0, 0))) (hc : cs = (encL enc l).toArray) (hn : ∀ x, (enc x).length = n) (hp : 0 < n) (hl : l.length ≤ maxLen) : LS enc n W (.slice (some ⟨g, 0, none⟩) l.length l.length) l := by
  have h1 : l.length * n = (encL enc l).length := (encL_length hn l).symm
  exact (RowL.of_block hr hn (by rw [hc, h1]; simp) (by rw [hc, h1]; simp)).slice hn hp (Nat.le_refl _) hl
theorem run_store_funcG {P : Program} {w : World} {ad : Addr} {m : Mode} (f : Fn) (a b : Array Value) : (store ad (.func f a b) m).run P w = stored P w ad (.func f a b) m := run_store P w ad _ m rfl
attribute [local go_sem] run_store_funcG

set_option maxRecDepth 8000 in
set_option maxHeartbeats 8000000 in
theorem drefund_any (t : Tk) (c x h : Sl) (pen on : Int) (hon : I64 on) (w : World) (ts : TS w t c x h) : Calls Try.prog 16 #[.agg #[.int .u64 t.num, .string t.loc, .int .i64 t.iss, .slice c.p c.n c.c, .slice x.p x.n x.c, .int .u64 t.prev, .int .u64 t.org, .int .u64 t.fst, .int .i64 t.vou, .int .i64 t.posts, .slice h.p h.n h.c], .int .i64 pen, .int .i64 on] w fun e w' => ∃ (c' x' h' : Sl) (v : Value), e = .returned (.tuple #[.agg #[.int .u64 (Dk.refundD t pen on).1.num, .string (Dk.refundD t pen on).1.loc, .int .i64 (Dk.refundD t pen on).1.iss, .slice c'.p c'.n c'.c, .slice x'.p x'.n x'.c, .int .u64 (Dk.refundD t pen on).1.prev, .int .u64 (Dk.refundD t pen on).1.org, .int .u64 (Dk.refundD t pen on).1.fst, .int .i64 (Dk.refundD t pen on).1.vou, .int .i64 (Dk.refundD t pen on).1.posts, .slice h'.p h'.n h'.c], v, .int .i64 (Dk.refundD t pen on).2.2]) ∧ TS w' (Dk.refundD t pen on).1 c' x' h' ∧ LS Pst.cells 10 w' v (Dk.refundD t pen on).2.1 ∧ Below w.heap.size w w' := by
  obtain ⟨R, hR⟩ : ∃ R, Dk.refundD t pen on = R := ⟨_, rfl⟩
  rw [hR]
  have HRV := Lib.hid hR
  have HTT := Lib.hid ts; have HON := Lib.hid hon
  obtain ⟨E, hE⟩ : ∃ E, Dk.openE t on = E := ⟨_, rfl⟩
  have HE := Lib.hid hE
  have HOP := Lib.hid (fun W ts => dopen_any t c x h on W ts)
  rw [hE] at HOP
  have HEV : Hid (E = 2 ∨ (Tkt.mayB t = true ∧ (E = 0 ∨ E = 15))) := Lib.hid (by
    rw [← hE]; unfold Dk.openE
    by_cases h1 : (Tkt.mayB t && Tkt.dayB on) = true
    · rw [if_pos h1]
      refine .inr ⟨by simp at h1; exact h1.1, ?_⟩
      split
      · exact .inr rfl
      · exact .inl rfl
    · rw [if_neg h1]; exact .inl rfl)
  have hb0 := ((Below.refl w.heap.size w).alloc (Nat.le_refl _) (.cells #[.int .u64 t.num, .string t.loc, .int .i64 t.iss, .slice c.p c.n c.c, .slice x.p x.n x.c, .int .u64 t.prev, .int .u64 t.org, .int .u64 t.fst, .int .i64 t.vou, .int .i64 t.posts, .slice h.p h.n h.c] 45 (0, 0))).alloc (by simp) (.cells #[.int .u64 0, .string ⟨#[]⟩, .int .i64 0, .slice none 0 0, .slice none 0 0, .int .u64 0, .int .u64 0, .int .u64 0, .int .i64 0, .int .i64 0, .slice none 0 0] 45 (0, 0))
  have hr0 := row_allocF (new_rowW w (.cells #[.int .u64 t.num, .string t.loc, .int .i64 t.iss, .slice c.p c.n c.c, .slice x.p x.n x.c, .int .u64 t.prev, .int .u64 t.org, .int .u64 t.fst, .int .i64 t.vou, .int .i64 t.posts, .slice h.p h.n h.c] 45 (0, 0)) _ rfl) (.cells #[.int .u64 0, .string ⟨#[]⟩, .int .i64 0, .slice none 0 0, .slice none 0 0, .int .u64 0, .int .u64 0, .int .u64 0, .int .i64 0, .int .i64 0, .slice none 0 0] 45 (0, 0))
  have hr1 := new_rowW (w.alloc (.cells #[.int .u64 t.num, .string t.loc, .int .i64 t.iss, .slice c.p c.n c.c, .slice x.p x.n x.c, .int .u64 t.prev, .int .u64 t.org, .int .u64 t.fst, .int .i64 t.vou, .int .i64 t.posts, .slice h.p h.n h.c] 45 (0, 0))) (.cells #[.int .u64 0, .string ⟨#[]⟩, .int .i64 0, .slice none 0 0, .slice none 0 0, .int .u64 0, .int .u64 0, .int .u64 0, .int .i64 0, .int .i64 0, .slice none 0 0] 45 (0, 0)) (w.heap.size + 1) (by simp)
  have HTS := Lib.hid (ts.below hb0)
  have HSZ : Hid (w.heap.size + 1 < ((w.alloc (.cells #[.int .u64 t.num, .string t.loc, .int .i64 t.iss, .slice c.p c.n c.c, .slice x.p x.n x.c, .int .u64 t.prev, .int .u64 t.org, .int .u64 t.fst, .int .i64 t.vou, .int .i64 t.posts, .slice h.p h.n h.c] 45 (0, 0))).alloc (.cells #[.int .u64 0, .string ⟨#[]⟩, .int .i64 0, .slice none 0 0, .slice none 0 0, .int .u64 0, .int .u64 0, .int .u64 0, .int .i64 0, .int .i64 0, .slice none 0 0] 45 (0, 0))).heap.size) := Lib.hid (by simp)
  have HB0 := Lib.hid hb0; have HR0 := Lib.hid hr0; have HR1 := Lib.hid hr1
  obtain ⟨f1, f2⟩ := row_loT 11 hr0 rfl rfl
  clear ts hon hR hE hb0 hr0 hr1
  go_enter Try.func16, Try.ntmps16
  go_wp2_with fail
  clear f1 f2
  generalize (w.alloc (.cells #[.int .u64 t.num, .string t.loc, .int .i64 t.iss, .slice c.p c.n c.c, .slice x.p x.n x.c, .int .u64 t.prev, .int .u64 t.org, .int .u64 t.fst, .int .i64 t.vou, .int .i64 t.posts, .slice h.p h.n h.c] 45 (0, 0))).alloc (.cells #[.int .u64 0, .string ⟨#[]⟩, .int .i64 0, .slice none 0 0, .slice none 0 0, .int .u64 0, .int .u64 0, .int .u64 0, .int .i64 0, .int .i64 0, .slice none 0 0] 45 (0, 0)) = W0 at *
  refine (HOP.out W0 HTS.out).mono ?_
  rintro e w1 ⟨rfl, hb1⟩
  have HR0 := Lib.hid ((hb1.block _ (block_lt HR0.out)).trans HR0.out); have HR1 := Lib.hid ((hb1.block _ (block_lt HR1.out)).trans HR1.out)
  have HB1 := Lib.hid (HB0.out.trans (hb1.mono HB0.out.size)); have HTS := Lib.hid (HTS.out.below hb1)
  have HSZ := Lib.hid (Nat.lt_of_lt_of_le HSZ.out hb1.size)
  clear hb1 HOP HB0
  rcases HEV.out with h2 | ⟨hm, hcase⟩
  · subst h2
    have HR2 : Hid (R = (Tkt.zTk, [], 2)) := Lib.hid (by rw [← HRV.out]; unfold Dk.refundD; rw [if_pos (.inl HE.out)])
    have th := there_rowD HR1.out 11 rfl
    have h1n : ([.int .u64 0, .string ⟨#[]⟩, .int .i64 0, .slice none 0 0, .slice none 0 0, .int .u64 0, .int .u64 0, .int .u64 0, .int .i64 0, .int .i64 0, .slice none 0 0] : List Value).length = 11 := rfl
    have h1c : ([.int .u64 0, .string ⟨#[]⟩, .int .i64 0, .slice none 0 0, .slice none 0 0, .int .u64 0, .int .u64 0, .int .u64 0, .int .i64 0, .int .i64 0, .slice none 0 0] : List Value).all (·.oneCell') = true := rfl
    go_wp2
    have hrr := setCells_rowT (cs := [.int .u64 0, .string ⟨#[]⟩, .int .i64 0, .slice none 0 0, .slice none 0 0, .int .u64 0, .int .u64 0, .int .u64 0, .int .i64 0, .int .i64 0, .slice none 0 0]) (zs := [.int .u64 0, .string ⟨#[]⟩, .int .i64 0, .slice none 0 0, .slice none 0 0, .int .u64 0, .int .u64 0, .int .u64 0, .int .i64 0, .int .i64 0, .slice none 0 0]) HR1.out rfl
    refine bodyPost_ret (results_cellT3 rfl _ _ (w.heap.size + 1) rfl (loadTk hrr rfl)) rfl ?_
    rw [HR2.out]
    exact ⟨⟨none, 0, 0⟩, ⟨none, 0, 0⟩, ⟨none, 0, 0⟩, .slice none 0 0, rfl, TS.zero _, LS.nil _, Only.below HB1.out (by omega) HB1.out.size ((Only.refl _ _).setCells 0 _)⟩
  · have HMA := Lib.hid (Dk.may_amounts hm)
    have HLN := Lib.hid (Tkt.mayB_lens hm)
    have HNE : Hid (¬ E = 2) := Lib.hid (by omega)
    have he2 : (E == 2) = false := by rcases hcase with rfl | rfl <;> rfl
    have HCA := Lib.hid hcase
    clear hcase hm
    have HPEN := Lib.hid (fun W => damount_any pen W)
    obtain ⟨pb, hpb⟩ : ∃ pb, Tkt.someB pen = pb := ⟨_, rfl⟩
    rw [hpb] at HPEN
    have HPB := Lib.hid hpb
    clear hpb
    go_wp2_with fail
    refine (HPEN.out _).mono ?_
    rintro e w2 ⟨rfl, hw⟩
    subst hw
    clear HPEN
    cases pb
    · have HR2 : Hid (R = (Tkt.zTk, [], 2)) := Lib.hid (by rw [← HRV.out]; unfold Dk.refundD; rw [if_pos (.inr HPB.out)])
      have th := there_rowD HR1.out 11 rfl
      have h1n : ([.int .u64 0, .string ⟨#[]⟩, .int .i64 0, .slice none 0 0, .slice none 0 0, .int .u64 0, .int .u64 0, .int .u64 0, .int .i64 0, .int .i64 0, .slice none 0 0] : List Value).length = 11 := rfl
      have h1c : ([.int .u64 0, .string ⟨#[]⟩, .int .i64 0, .slice none 0 0, .slice none 0 0, .int .u64 0, .int .u64 0, .int .u64 0, .int .i64 0, .int .i64 0, .slice none 0 0] : List Value).all (·.oneCell') = true := rfl
      go_wp2
      have hrr := setCells_rowT (cs := [.int .u64 0, .string ⟨#[]⟩, .int .i64 0, .slice none 0 0, .slice none 0 0, .int .u64 0, .int .u64 0, .int .u64 0, .int .i64 0, .int .i64 0, .slice none 0 0]) (zs := [.int .u64 0, .string ⟨#[]⟩, .int .i64 0, .slice none 0 0, .slice none 0 0, .int .u64 0, .int .u64 0, .int .u64 0, .int .i64 0, .int .i64 0, .slice none 0 0]) HR1.out rfl
      refine bodyPost_ret (results_cellT3 rfl _ _ (w.heap.size + 1) rfl (loadTk hrr rfl)) rfl ?_
      rw [HR2.out]
      exact ⟨⟨none, 0, 0⟩, ⟨none, 0, 0⟩, ⟨none, 0, 0⟩, .slice none 0 0, rfl, TS.zero _, LS.nil _, Only.below HB1.out (by omega) HB1.out.size ((Only.refl _ _).setCells 0 _)⟩
    · have hpen : 0 ≤ pen ∧ pen ≤ 1000000000000 := by
        have h1 := HPB.out
        unfold Tkt.someB at h1
        simp only [Bool.and_eq_true, decide_eq_true_eq] at h1
        exact h1
      have HPE := Lib.hid hpen
      obtain ⟨vv, hvv⟩ : ∃ vv, Dk.valN [1, 8] t.cs = vv := ⟨_, rfl⟩
      obtain ⟨xx, hxx⟩ : ∃ xx, Dk.freeN [1, 8] t = xx := ⟨_, rfl⟩
      have HV1 : Hid (0 ≤ vv ∧ vv ≤ 4000000000000) := Lib.hid (by have h1 := Dk.valN_bound [1, 8] t.cs HMA.out.1; have h2 := HLN.out.2.1; rw [hvv] at h1; omega)
      have HX1 : Hid (0 ≤ xx ∧ xx ≤ 4000000000000) := Lib.hid (by have h1 := Dk.freeN_bound [1, 8] t HMA.out.2; have h2 := HLN.out.2.2.1; rw [hxx] at h1; omega)
      have HVL := Lib.hid (fun W po no co hl ho => dvalues_any t c x h [1, 8] po no co W hl HMA.out.1 (by have := HLN.out.2.1; omega) ho)
      have HFR := Lib.hid (fun W po no co ts ho hpo => dfree_any t c x h [1, 8] po no co W ts ho hpo HMA.out.2 (by have := HLN.out.2.2.1; omega) (by have := HLN.out.2.1; omega))
      rw [hvv] at HVL; rw [hxx] at HFR
      have HVV := Lib.hid hvv; have HXX := Lib.hid hxx
      clear hvv hxx hpen
      have HRB := Lib.hid (new_rowW w1 (.cells #[.func (.func 52) #[] #[]] 81 (0, 0)) _ rfl)
      have HBX := Lib.hid ((Below.refl w1.heap.size w1).alloc (Nat.le_refl _) (.cells #[.func (.func 52) #[] #[]] 81 (0, 0)))
      go_upto_region 5 with fail
      have HR0 := Lib.hid ((HBX.out.block _ (block_lt HR0.out)).trans HR0.out); have HR1 := Lib.hid ((HBX.out.block _ (block_lt HR1.out)).trans HR1.out)
      have HB1 := Lib.hid (HB1.out.trans (HBX.out.mono HB1.out.size)); have HTS := Lib.hid (HTS.out.below HBX.out)
      have HGB : Hid (w.heap.size + 1 < w1.heap.size) := HSZ
      clear HSZ HBX
      generalize w1.alloc (.cells #[.func (.func 52) #[] #[]] 81 (0, 0)) = wz at *
      generalize w1.heap.size = gb at *
      refine wp_region_rel (T := fun A B => Below A.heap.size A B) (G := fun W => Below wz.heap.size wz W) (R := fun k => match k with | 0 => fun v _ => v = .agg #[.int .u64 t.num, .string t.loc, .int .i64 t.iss, .slice c.p c.n c.c, .slice x.p x.n x.c, .int .u64 t.prev, .int .u64 t.org, .int .u64 t.fst, .int .i64 t.vou, .int .i64 t.posts, .slice h.p h.n h.c] | 1 => fun v W => ∃ g, v = .slice (some ⟨g, 0, none⟩) 2 2 ∧ g < W.heap.size ∧ LS stC 1 W (.slice (some ⟨g, 0, none⟩) 2 2) [1, 8] | 2 => fun v _ => v = .int .i64 vv | 3 => fun v _ => v = .agg #[.int .u64 t.num, .string t.loc, .int .i64 t.iss, .slice c.p c.n c.c, .slice x.p x.n x.c, .int .u64 t.prev, .int .u64 t.org, .int .u64 t.fst, .int .i64 t.vou, .int .i64 t.posts, .slice h.p h.n h.c] | 4 => fun v W => ∃ g, v = .slice (some ⟨g, 0, none⟩) 2 2 ∧ g < W.heap.size ∧ LS stC 1 W (.slice (some ⟨g, 0, none⟩) 2 2) [1, 8] | 5 => fun v _ => v = .int .i64 xx | 6 => fun v _ => v = .int .i64 vv | 7 => fun v _ => v = .int .i64 xx | _ => fun _ _ => True) (by kernel_rfl) (by kernel_rfl) (by kernel_rfl) ?iT ((Below.refl _ _).drew) ?iS ?iD
      case iT =>
        intro k v A B hT h
        match k, h with
        | 0, h => exact h
        | 1, h => exact (by obtain ⟨g, h1, h2, h3⟩ := h; exact ⟨g, h1, Nat.lt_of_lt_of_le h2 hT.size, h3.below hT⟩)
        | 2, h => exact h
        | 3, h => exact h
        | 4, h => exact (by obtain ⟨g, h1, h2, h3⟩ := h; exact ⟨g, h1, Nat.lt_of_lt_of_le h2 hT.size, h3.below hT⟩)
        | 5, h => exact h
        | 6, h => exact h
        | 7, h => exact h
        | _ + 8, h => exact trivial
      case iS =>
        refine ⟨?s0, ?s1, ?s2, ?s3, ?s4, ?s5, ?s6, ?s7, trivial⟩
        case s0 =>
          intro f W hG hW K hK
          try dsimp only at hG
          simp only [putF, Act.put, List.setIfInBounds_toArray, List.set_cons_zero, List.set_cons_succ, Nat.reduceAdd, Nat.zero_add] at hK ⊢
          have hrw := (hG.block w.heap.size (block_lt HR0.out)).trans HR0.out
          obtain ⟨f1, f2⟩ := row_loT 11 hrw rfl rfl
          clear hW
          go_simp
          refine hK.out _ _ (Below.refl _ _) hG ?_
          first | with_reducible rfl | rfl
        case s1 =>
          intro f W hG hW K hK
          try dsimp only at hG
          simp only [putF, Act.put, List.setIfInBounds_toArray, List.set_cons_zero, List.set_cons_succ, Nat.reduceAdd, Nat.zero_add] at hK ⊢
          clear hW
          go_simp
          refine hK.out _ _ ((Below.refl _ _).alloc (Nat.le_refl _) _) (hG.alloc hG.size _) ?_
          exact ⟨W.heap.size, rfl, by simp, ls_rowG (enc := stC) (l := [1, 8]) (new_rowW _ _ _ rfl) rfl (fun _ => rfl) (by decide) (by decide)⟩
        case s2 =>
          intro f W hG hW K hK
          try dsimp only at hG
          have e0 := hW 0 (by kernel_rfl)
          change f 0 = .agg #[.int .u64 t.num, .string t.loc, .int .i64 t.iss, .slice c.p c.n c.c, .slice x.p x.n x.c, .int .u64 t.prev, .int .u64 t.org, .int .u64 t.fst, .int .i64 t.vou, .int .i64 t.posts, .slice h.p h.n h.c] at e0
          have e1 := hW 1 (by kernel_rfl)
          try dsimp only at e1
          simp only [putF, Act.put, List.setIfInBounds_toArray, List.set_cons_zero, List.set_cons_succ, Nat.reduceAdd, Nat.zero_add] at hK ⊢
          (try rw [e0])
          (try rw [e0] at hK)
          obtain ⟨g, hv, hg, hl⟩ := e1
          simp only [hv] at hK ⊢
          clear hW
          go_simp
          refine (HVL.out W _ _ _ (HTS.out.below hG).cs hl).mono ?_
          rintro e w' ⟨rfl, hb⟩
          refine hK.out _ _ hb (hG.trans (hb.mono hG.size)) ?_
          rfl
        case s3 =>
          intro f W hG hW K hK
          try dsimp only at hG
          simp only [putF, Act.put, List.setIfInBounds_toArray, List.set_cons_zero, List.set_cons_succ, Nat.reduceAdd, Nat.zero_add] at hK ⊢
          have hrw := (hG.block w.heap.size (block_lt HR0.out)).trans HR0.out
          obtain ⟨f1, f2⟩ := row_loT 11 hrw rfl rfl
          clear hW
          go_simp
          refine hK.out _ _ (Below.refl _ _) hG ?_
          first | with_reducible rfl | rfl
        case s4 =>
          intro f W hG hW K hK
          try dsimp only at hG
          simp only [putF, Act.put, List.setIfInBounds_toArray, List.set_cons_zero, List.set_cons_succ, Nat.reduceAdd, Nat.zero_add] at hK ⊢
          clear hW
          go_simp
          refine hK.out _ _ ((Below.refl _ _).alloc (Nat.le_refl _) _) (hG.alloc hG.size _) ?_
          exact ⟨W.heap.size, rfl, by simp, ls_rowG (enc := stC) (l := [1, 8]) (new_rowW _ _ _ rfl) rfl (fun _ => rfl) (by decide) (by decide)⟩
        case s5 =>
          intro f W hG hW K hK
          try dsimp only at hG
          have e2 := hW 2 (by kernel_rfl)
          change f 2 = .int .i64 vv at e2
          have e3 := hW 3 (by kernel_rfl)
          change f 3 = .agg #[.int .u64 t.num, .string t.loc, .int .i64 t.iss, .slice c.p c.n c.c, .slice x.p x.n x.c, .int .u64 t.prev, .int .u64 t.org, .int .u64 t.fst, .int .i64 t.vou, .int .i64 t.posts, .slice h.p h.n h.c] at e3
          have e4 := hW 4 (by kernel_rfl)
          try dsimp only at e4
          simp only [putF, Act.put, List.setIfInBounds_toArray, List.set_cons_zero, List.set_cons_succ, Nat.reduceAdd, Nat.zero_add] at hK ⊢
          (try rw [e2])
          (try rw [e2] at hK)
          (try rw [e3])
          (try rw [e3] at hK)
          obtain ⟨g, hv, hg, hl⟩ := e4
          simp only [hv] at hK ⊢
          clear hW
          go_simp
          refine (HFR.out W _ _ _ (HTS.out.below hG) hl (fun b hb => by injection hb with hb; have hb : g = b := hb; omega)).mono ?_
          rintro e w' ⟨rfl, hb⟩
          refine hK.out _ _ hb (hG.trans (hb.mono hG.size)) ?_
          rfl
        case s6 =>
          intro f W hG hW K hK
          try dsimp only at hG
          have e0 := hW 0 (by kernel_rfl)
          change f 0 = .agg #[.int .u64 t.num, .string t.loc, .int .i64 t.iss, .slice c.p c.n c.c, .slice x.p x.n x.c, .int .u64 t.prev, .int .u64 t.org, .int .u64 t.fst, .int .i64 t.vou, .int .i64 t.posts, .slice h.p h.n h.c] at e0
          have e1 := hW 1 (by kernel_rfl)
          try dsimp only at e1
          have e2 := hW 2 (by kernel_rfl)
          change f 2 = .int .i64 vv at e2
          have e5 := hW 5 (by kernel_rfl)
          change f 5 = .int .i64 xx at e5
          simp only [putF, Act.put, List.setIfInBounds_toArray, List.set_cons_zero, List.set_cons_succ, Nat.reduceAdd, Nat.zero_add] at hK ⊢
          (try rw [e0])
          (try rw [e0] at hK)
          (try rw [e2])
          (try rw [e2] at hK)
          (try rw [e5])
          (try rw [e5] at hK)
          clear hW
          go_simp
          refine hK.out _ _ (Below.refl _ _) hG ?_
          first | with_reducible rfl | rfl
        case s7 =>
          intro f W hG hW K hK
          try dsimp only at hG
          have e0 := hW 0 (by kernel_rfl)
          change f 0 = .agg #[.int .u64 t.num, .string t.loc, .int .i64 t.iss, .slice c.p c.n c.c, .slice x.p x.n x.c, .int .u64 t.prev, .int .u64 t.org, .int .u64 t.fst, .int .i64 t.vou, .int .i64 t.posts, .slice h.p h.n h.c] at e0
          have e1 := hW 1 (by kernel_rfl)
          try dsimp only at e1
          have e2 := hW 2 (by kernel_rfl)
          change f 2 = .int .i64 vv at e2
          have e3 := hW 3 (by kernel_rfl)
          change f 3 = .agg #[.int .u64 t.num, .string t.loc, .int .i64 t.iss, .slice c.p c.n c.c, .slice x.p x.n x.c, .int .u64 t.prev, .int .u64 t.org, .int .u64 t.fst, .int .i64 t.vou, .int .i64 t.posts, .slice h.p h.n h.c] at e3
          have e4 := hW 4 (by kernel_rfl)
          try dsimp only at e4
          have e5 := hW 5 (by kernel_rfl)
          change f 5 = .int .i64 xx at e5
          have e6 := hW 6 (by kernel_rfl)
          change f 6 = .int .i64 vv at e6
          simp only [putF, Act.put, List.setIfInBounds_toArray, List.set_cons_zero, List.set_cons_succ, Nat.reduceAdd, Nat.zero_add] at hK ⊢
          (try rw [e0])
          (try rw [e0] at hK)
          (try rw [e2])
          (try rw [e2] at hK)
          (try rw [e3])
          (try rw [e3] at hK)
          (try rw [e5])
          (try rw [e5] at hK)
          (try rw [e6])
          (try rw [e6] at hK)
          clear hW
          go_simp
          refine hK.out _ _ (Below.refl _ _) hG ?_
          first | with_reducible rfl | rfl
      case iD =>
        intro f W hG hR
        try dsimp only at hG
        have r0 := hR 0 (by decide)
        change f 0 = .agg #[.int .u64 t.num, .string t.loc, .int .i64 t.iss, .slice c.p c.n c.c, .slice x.p x.n x.c, .int .u64 t.prev, .int .u64 t.org, .int .u64 t.fst, .int .i64 t.vou, .int .i64 t.posts, .slice h.p h.n h.c] at r0
        have r1 := hR 1 (by decide)
        try dsimp only at r1
        have r2 := hR 2 (by decide)
        change f 2 = .int .i64 vv at r2
        have r3 := hR 3 (by decide)
        change f 3 = .agg #[.int .u64 t.num, .string t.loc, .int .i64 t.iss, .slice c.p c.n c.c, .slice x.p x.n x.c, .int .u64 t.prev, .int .u64 t.org, .int .u64 t.fst, .int .i64 t.vou, .int .i64 t.posts, .slice h.p h.n h.c] at r3
        have r4 := hR 4 (by decide)
        try dsimp only at r4
        have r5 := hR 5 (by decide)
        change f 5 = .int .i64 xx at r5
        have r6 := hR 6 (by decide)
        change f 6 = .int .i64 vv at r6
        have r7 := hR 7 (by decide)
        change f 7 = .int .i64 xx at r7
        clear hR
        simp only [putF, Act.put, List.setIfInBounds_toArray, List.set_cons_zero, List.set_cons_succ, Nat.reduceAdd, Nat.zero_add]
        (try rw [r0])
        (try rw [r2])
        (try rw [r3])
        (try rw [r5])
        (try rw [r6])
        (try rw [r7])
        have HBB := Lib.hid hG
        clear hG r0 r2 r3 r5 r6 r7 r1 r4
        generalize W = w3 at *
        have HR0 := Lib.hid ((HBB.out.block _ (block_lt HR0.out)).trans HR0.out); have HR1 := Lib.hid ((HBB.out.block _ (block_lt HR1.out)).trans HR1.out); have HRB := Lib.hid ((HBB.out.block _ (block_lt HRB.out)).trans HRB.out)
        have HB1 := Lib.hid (HB1.out.trans (HBB.out.mono HB1.out.size)); have HTS := Lib.hid (HTS.out.below HBB.out)
        clear HBB HVL HFR
        rcases HCA.out with rfl | rfl
        · obtain ⟨bq, hbq⟩ : ∃ bq, t.cs.any (Dk.selBack 0) = bq := ⟨_, rfl⟩
          have HBQ := Lib.hid hbq
          have kb : ∀ W, Below w3.heap.size w3 W → W.cell? ⟨gb, 0, none⟩ = some (.func (.func 52) #[] #[]) := fun W hW => ((hW.block _ (block_lt HRB.out)).trans HRB.out |> fun h => cell_of_row W gb 0 _ _ _ h)
          have HHB := Lib.hid (hasBack_any t.cs (Dk.selBack 0) bq (by rw [← hbq]; simp only [List.any_eq_true]) c.p c.n c.c gb w3 HTS.out.cs (fun y _ W hW => dref2_any y gb W (kb W hW)))
          have kc := fun j => cell_of_row w3 w.heap.size j _ _ _ HR0.out
          clear hbq kb
          go_wp2_with fail
          clear kc
          refine HHB.out.mono ?_
          rintro e w4 ⟨rfl, hb4⟩
          have HBB := Lib.hid hb4
          clear hb4 HHB
          have HR0 := Lib.hid ((HBB.out.block _ (block_lt HR0.out)).trans HR0.out); have HR1 := Lib.hid ((HBB.out.block _ (block_lt HR1.out)).trans HR1.out); have HRB := Lib.hid ((HBB.out.block _ (block_lt HRB.out)).trans HRB.out)
          have HB1 := Lib.hid (HB1.out.trans (HBB.out.mono HB1.out.size)); have HTS := Lib.hid (HTS.out.below HBB.out)
          clear HBB
          cases bq
          · have HR2 : Hid (R = (Tkt.zTk, [], 9)) := Lib.hid (by rw [← HRV.out]; unfold Dk.refundD; rw [if_neg (by rw [HE.out, HPB.out]; decide), if_neg (by rw [HE.out]; decide), if_pos HBQ.out])
            have th := there_rowD HR1.out 11 rfl
            have h1n : ([.int .u64 0, .string ⟨#[]⟩, .int .i64 0, .slice none 0 0, .slice none 0 0, .int .u64 0, .int .u64 0, .int .u64 0, .int .i64 0, .int .i64 0, .slice none 0 0] : List Value).length = 11 := rfl
            have h1c : ([.int .u64 0, .string ⟨#[]⟩, .int .i64 0, .slice none 0 0, .slice none 0 0, .int .u64 0, .int .u64 0, .int .u64 0, .int .i64 0, .int .i64 0, .slice none 0 0] : List Value).all (·.oneCell') = true := rfl
            go_wp2
            have hrr := setCells_rowT (cs := [.int .u64 0, .string ⟨#[]⟩, .int .i64 0, .slice none 0 0, .slice none 0 0, .int .u64 0, .int .u64 0, .int .u64 0, .int .i64 0, .int .i64 0, .slice none 0 0]) (zs := [.int .u64 0, .string ⟨#[]⟩, .int .i64 0, .slice none 0 0, .slice none 0 0, .int .u64 0, .int .u64 0, .int .u64 0, .int .i64 0, .int .i64 0, .slice none 0 0]) HR1.out rfl
            refine bodyPost_ret (results_cellT3 rfl _ _ (w.heap.size + 1) rfl (loadTk hrr rfl)) rfl ?_
            rw [HR2.out]
            exact ⟨⟨none, 0, 0⟩, ⟨none, 0, 0⟩, ⟨none, 0, 0⟩, .slice none 0 0, rfl, TS.zero _, LS.nil _, Only.below HB1.out (by omega) HB1.out.size ((Only.refl _ _).setCells 0 _)⟩
          · have hv1 := HV1.out; have hx1 := HX1.out
            have HAL : Hid (∀ W po no co, LS i64C 1 W (.slice po no co) [vv, xx] → no ≤ 5 → Calls Try.prog 30 #[.slice po no co] W fun e w' => e = .returned (.int .i64 (vv + xx)) ∧ W = w') := Lib.hid (fun W po no co hl hn => by
              have h1 := dall_any [vv, xx] po no co W hl (by intro y hy; simp at hy; rcases hy with rfl | rfl <;> omega) hn
              rwa [show Dk.allN [vv, xx] = vv + xx by simp [Dk.allN]] at h1)
            have HLS : Hid (∀ W : World, LS i64C 1 (W.alloc (.cells #[.int .i64 vv, .int .i64 xx] 2 (0, 0))) (.slice (some ⟨W.heap.size, 0, none⟩) 2 2) [vv, xx]) := Lib.hid (fun W => ls_rowG (enc := i64C) (l := [vv, xx]) (new_rowW W (.cells #[.int .i64 vv, .int .i64 xx] 2 (0, 0)) _ rfl) rfl (fun _ => rfl) (by decide) (by simp [maxLen]))
            clear hv1 hx1
            go_wp2_with fail
            refine (HAL.out _ _ _ _ (HLS.out w4) (by omega)).mono ?_
            rintro e w5 ⟨rfl, hw⟩
            subst hw
            have HBB := Lib.hid ((Below.refl w4.heap.size w4).alloc (Nat.le_refl _) (.cells #[.int .i64 vv, .int .i64 xx] 2 (0, 0)))
            have HR0 := Lib.hid ((HBB.out.block _ (block_lt HR0.out)).trans HR0.out); have HR1 := Lib.hid ((HBB.out.block _ (block_lt HR1.out)).trans HR1.out)
            have HB1 := Lib.hid (HB1.out.trans (HBB.out.mono HB1.out.size)); have HTS := Lib.hid (HTS.out.below HBB.out); have HRB := Lib.hid ((HBB.out.block _ (block_lt HRB.out)).trans HRB.out)
            clear HBB HAL HLS
            generalize w4.alloc (.cells #[.int .i64 vv, .int .i64 xx] 2 (0, 0)) = w5 at *
            by_cases hp : vv + xx < pen
            · have HR2 : Hid (R = (Tkt.zTk, [], 14)) := Lib.hid (by rw [← HRV.out]; unfold Dk.refundD; rw [if_neg (by rw [HE.out, HPB.out]; decide), if_neg (by rw [HE.out]; decide), if_neg (by rw [HBQ.out]; decide), HVV.out, HXX.out, if_pos hp])
              have th := there_rowD HR1.out 11 rfl
              have h1n : ([.int .u64 0, .string ⟨#[]⟩, .int .i64 0, .slice none 0 0, .slice none 0 0, .int .u64 0, .int .u64 0, .int .u64 0, .int .i64 0, .int .i64 0, .slice none 0 0] : List Value).length = 11 := rfl
              have h1c : ([.int .u64 0, .string ⟨#[]⟩, .int .i64 0, .slice none 0 0, .slice none 0 0, .int .u64 0, .int .u64 0, .int .u64 0, .int .i64 0, .int .i64 0, .slice none 0 0] : List Value).all (·.oneCell') = true := rfl
              go_wp2
              have hrr := setCells_rowT (cs := [.int .u64 0, .string ⟨#[]⟩, .int .i64 0, .slice none 0 0, .slice none 0 0, .int .u64 0, .int .u64 0, .int .u64 0, .int .i64 0, .int .i64 0, .slice none 0 0]) (zs := [.int .u64 0, .string ⟨#[]⟩, .int .i64 0, .slice none 0 0, .slice none 0 0, .int .u64 0, .int .u64 0, .int .u64 0, .int .i64 0, .int .i64 0, .slice none 0 0]) HR1.out rfl
              refine bodyPost_ret (results_cellT3 rfl _ _ (w.heap.size + 1) rfl (loadTk hrr rfl)) rfl ?_
              rw [HR2.out]
              exact ⟨⟨none, 0, 0⟩, ⟨none, 0, 0⟩, ⟨none, 0, 0⟩, .slice none 0 0, rfl, TS.zero _, LS.nil _, Only.below HB1.out (by omega) HB1.out.size ((Only.refl _ _).setCells 0 _)⟩
            · have HNP := Lib.hid hp
              obtain ⟨⟨tc, ec⟩, hrc⟩ : ∃ r, Dk.chgD Dk.selBack on 6 0 t = r := ⟨_, rfl⟩
              have HCH := Lib.hid (dchBack_any t c x h on 6 0 HON.out ⟨by decide, by decide⟩ w5 HTS.out ⟨by have := HLN.out.2.1; omega, by have := HLN.out.2.2.2; omega⟩)
              rw [hrc] at HCH
              have HRC := Lib.hid hrc
              obtain ⟨f1, f2⟩ := row_loT 11 HR0.out rfl rfl
              have kb := cell_of_row w5 gb 0 _ _ _ HRB.out
              clear hrc
              go_wp2_with fail
              clear f1 f2 kb
              refine HCH.out.mono ?_
              rintro e w6 ⟨⟨a1, k1, b1⟩, ⟨a2, k2, b2⟩, ⟨a3, k3, b3⟩, rfl, ts2, hb6, hfr⟩
              have HT2 := Lib.hid ts2; have HBB := Lib.hid hb6
              have HOF : Hid (Off (w.heap.size + 1) tc ⟨a1, k1, b1⟩ ⟨a2, k2, b2⟩ ⟨a3, k3, b3⟩) := Lib.hid (hfr.off (Off.of_old HTT.out (by omega)) (.inl (block_lt HR1.out)))
              clear ts2 hb6 hfr HCH
              have HR0 := Lib.hid ((HBB.out.block _ (block_lt HR0.out)).trans HR0.out); have HR1 := Lib.hid ((HBB.out.block _ (block_lt HR1.out)).trans HR1.out)
              have HB1 := Lib.hid (HB1.out.trans (HBB.out.mono HB1.out.size))
              have HG6 : Hid (w.heap.size + 1 < w6.heap.size) := Lib.hid (block_lt HR1.out)
              clear HBB HTS HRB
              have th := there_newT (w := w6) (zs := [.int .u64 0, .string ⟨#[]⟩, .int .i64 0, .slice none 0 0, .slice none 0 0, .int .u64 0, .int .u64 0, .int .u64 0, .int .i64 0, .int .i64 0, .slice none 0 0]) (e := 45 ) (n := 11) rfl
              have h1n : ([.int .u64 tc.num, .string tc.loc, .int .i64 tc.iss, .slice a1 k1 b1, .slice a2 k2 b2, .int .u64 tc.prev, .int .u64 tc.org, .int .u64 tc.fst, .int .i64 tc.vou, .int .i64 tc.posts, .slice a3 k3 b3] : List Value).length = 11 := rfl
              have h1c : ([.int .u64 tc.num, .string tc.loc, .int .i64 tc.iss, .slice a1 k1 b1, .slice a2 k2 b2, .int .u64 tc.prev, .int .u64 tc.org, .int .u64 tc.fst, .int .i64 tc.vou, .int .i64 tc.posts, .slice a3 k3 b3] : List Value).all (·.oneCell') = true := rfl
              have HP := Lib.hid (putTk (W := w6) (cs := [.int .u64 tc.num, .string tc.loc, .int .i64 tc.iss, .slice a1 k1 b1, .slice a2 k2 b2, .int .u64 tc.prev, .int .u64 tc.org, .int .u64 tc.fst, .int .i64 tc.vou, .int .i64 tc.posts, .slice a3 k3 b3]) rfl)
              by_cases h0 : ec = 0
              · subst h0
                have HRP : Hid (R = Dk.postD tc ⟨on, 0, 0, 4, pen - vv - xx, vv, 0, xx, -pen, 0⟩) := Lib.hid (by rw [← HRV.out]; unfold Dk.refundD; rw [if_neg (by rw [HE.out, HPB.out]; decide), if_neg (by rw [HE.out]; decide), if_neg (by rw [HBQ.out]; decide), HVV.out, HXX.out, if_neg (Int.not_lt.2 HNP.out), HRC.out, if_neg (by simp)])
                go_upto_region 15 with fail
                clear th h1n h1c
                generalize (w6.alloc (.cells #[.int .u64 0, .string ⟨#[]⟩, .int .i64 0, .slice none 0 0, .slice none 0 0, .int .u64 0, .int .u64 0, .int .u64 0, .int .i64 0, .int .i64 0, .slice none 0 0] 45 (0, 0))).setCells w6.heap.size 0 [.int .u64 tc.num, .string tc.loc, .int .i64 tc.iss, .slice a1 k1 b1, .slice a2 k2 b2, .int .u64 tc.prev, .int .u64 tc.org, .int .u64 tc.fst, .int .i64 tc.vou, .int .i64 tc.posts, .slice a3 k3 b3] = w7 at *
                have HBB := Lib.hid HP.out.2
                have HR13 := Lib.hid HP.out.1
                have HR1 := Lib.hid ((HBB.out.block _ (block_lt HR1.out)).trans HR1.out)
                have HB1 := Lib.hid (HB1.out.trans (HBB.out.mono HB1.out.size))
                have HT2 := Lib.hid (HT2.out.below HBB.out)
                have HG13 : Hid (w.heap.size + 1 < w6.heap.size) := HG6
                clear HBB HP HR0
                generalize w6.heap.size = g13 at *
                obtain ⟨PD, hpd⟩ : ∃ PD, Dk.postD tc ⟨on, 0, 0, 4, pen - vv - xx, vv, 0, xx, -pen, 0⟩ = PD := ⟨_, rfl⟩
                have HPD := Lib.hid (fun W ts => dpost_any tc ⟨a1, k1, b1⟩ ⟨a2, k2, b2⟩ ⟨a3, k3, b3⟩ ⟨on, 0, 0, 4, pen - vv - xx, vv, 0, xx, -pen, 0⟩ W ts)
                rw [hpd] at HPD HRP
                clear hpd
                obtain rfl : R = PD := HRP.out
                refine wp_region_rel (T := fun A B => Only (w.heap.size + 1) A B ∧ ((∃ c' x' h' : Sl, A.heap[w.heap.size + 1]? = some (.cells #[.int .u64 R.1.num, .string R.1.loc, .int .i64 R.1.iss, .slice c'.p c'.n c'.c, .slice x'.p x'.n x'.c, .int .u64 R.1.prev, .int .u64 R.1.org, .int .u64 R.1.fst, .int .i64 R.1.vou, .int .i64 R.1.posts, .slice h'.p h'.n h'.c] 45 (0, 0)) ∧ TS A R.1 c' x' h' ∧ Off (w.heap.size + 1) R.1 c' x' h') → (∃ c' x' h' : Sl, B.heap[w.heap.size + 1]? = some (.cells #[.int .u64 R.1.num, .string R.1.loc, .int .i64 R.1.iss, .slice c'.p c'.n c'.c, .slice x'.p x'.n x'.c, .int .u64 R.1.prev, .int .u64 R.1.org, .int .u64 R.1.fst, .int .i64 R.1.vou, .int .i64 R.1.posts, .slice h'.p h'.n h'.c] 45 (0, 0)) ∧ TS B R.1 c' x' h' ∧ Off (w.heap.size + 1) R.1 c' x' h'))) (G := fun W => Only (w.heap.size + 1) w7 W ∧ ∃ cs : Array Value, cs.size = 11 ∧ W.heap[w.heap.size + 1]? = some (.cells cs 45 (0, 0))) (R := fun k => match k with | 0 => fun v _ => v = .agg #[.int .u64 tc.num, .string tc.loc, .int .i64 tc.iss, .slice a1 k1 b1, .slice a2 k2 b2, .int .u64 tc.prev, .int .u64 tc.org, .int .u64 tc.fst, .int .i64 tc.vou, .int .i64 tc.posts, .slice a3 k3 b3] | 1 => fun v _ => v = .int .i64 on | 2 => fun v _ => v = .int .i64 pen | 3 => fun v _ => v = .int .i64 vv | 4 => fun v _ => v = .int .i64 (-vv) | 5 => fun v _ => v = .int .i64 xx | 6 => fun v _ => v = .int .i64 (-xx) | 7 => fun v W => ∃ g, v = .slice (some ⟨g, 0, none⟩) 3 3 ∧ g ≠ w.heap.size + 1 ∧ LS i64C 1 W (.slice (some ⟨g, 0, none⟩) 3 3) [pen, -vv, -xx] | 8 => fun v _ => v = .int .i64 (pen - vv - xx) | 9 => fun v _ => v = .int .i64 vv | 10 => fun v _ => v = .int .i64 xx | 11 => fun v _ => v = .int .i64 pen | 12 => fun v _ => v = .int .i64 (-pen) | 13 => fun v _ => v = .agg #[.int .i64 on, .int .u64 0, .int .i64 0, .int .i64 4, .int .i64 (pen - vv - xx), .int .i64 vv, .int .i64 0, .int .i64 xx, .int .i64 (-pen), .int .i64 0] | 14 => fun v W => ∃ (c' x' h' : Sl) (u : Value), v = .tuple #[.agg #[.int .u64 R.1.num, .string R.1.loc, .int .i64 R.1.iss, .slice c'.p c'.n c'.c, .slice x'.p x'.n x'.c, .int .u64 R.1.prev, .int .u64 R.1.org, .int .u64 R.1.fst, .int .i64 R.1.vou, .int .i64 R.1.posts, .slice h'.p h'.n h'.c], u, .int .i64 R.2.2] ∧ TS W R.1 c' x' h' ∧ Off (w.heap.size + 1) R.1 c' x' h' ∧ LS Pst.cells 10 W u R.2.1 ∧ ∀ b, u.ownBlock = some b → b ≠ w.heap.size + 1 | 15 => fun v W => ∃ c' x' h' : Sl, v = .agg #[.int .u64 R.1.num, .string R.1.loc, .int .i64 R.1.iss, .slice c'.p c'.n c'.c, .slice x'.p x'.n x'.c, .int .u64 R.1.prev, .int .u64 R.1.org, .int .u64 R.1.fst, .int .i64 R.1.vou, .int .i64 R.1.posts, .slice h'.p h'.n h'.c] ∧ TS W R.1 c' x' h' ∧ Off (w.heap.size + 1) R.1 c' x' h' | 16 => fun v W => LS Pst.cells 10 W v R.2.1 ∧ ∀ b, v.ownBlock = some b → b ≠ w.heap.size + 1 | 17 => fun v _ => v = .int .i64 R.2.2 | 18 => fun _ W => ∃ c' x' h' : Sl, W.heap[w.heap.size + 1]? = some (.cells #[.int .u64 R.1.num, .string R.1.loc, .int .i64 R.1.iss, .slice c'.p c'.n c'.c, .slice x'.p x'.n x'.c, .int .u64 R.1.prev, .int .u64 R.1.org, .int .u64 R.1.fst, .int .i64 R.1.vou, .int .i64 R.1.posts, .slice h'.p h'.n h'.c] 45 (0, 0)) ∧ TS W R.1 c' x' h' ∧ Off (w.heap.size + 1) R.1 c' x' h' | 19 => fun v W => LS Pst.cells 10 W v R.2.1 ∧ ∀ b, v.ownBlock = some b → b ≠ w.heap.size + 1 | 20 => fun v _ => v = .int .i64 R.2.2 | _ => fun _ _ => True) (by kernel_rfl) (by kernel_rfl) (by kernel_rfl) ?iT (⟨(Only.refl _ _).drew, _, rfl, HR1.out⟩) ?iS ?iD
                case iT =>
                  intro k v A B hT h
                  match k, h with
                  | 0, h => exact h
                  | 1, h => exact h
                  | 2, h => exact h
                  | 3, h => exact h
                  | 4, h => exact h
                  | 5, h => exact h
                  | 6, h => exact h
                  | 7, h => exact (by obtain ⟨g, h1, h2, h3⟩ := h; exact ⟨g, h1, h2, h3.keep hT.1.size (fun b hb hl => hT.1.block b hl (by injection hb with hb; have hb : g = b := hb; omega))⟩)
                  | 8, h => exact h
                  | 9, h => exact h
                  | 10, h => exact h
                  | 11, h => exact h
                  | 12, h => exact h
                  | 13, h => exact h
                  | 14, h => exact (by obtain ⟨c', x', h', u, h1, h2, h3, h4, h5⟩ := h; exact ⟨c', x', h', u, h1, h2.only h3 hT.1, h3, h4.keep hT.1.size (fun b hb hl => hT.1.block b hl (h5 b hb)), h5⟩)
                  | 15, h => exact (by obtain ⟨c', x', h', h1, h2, h3⟩ := h; exact ⟨c', x', h', h1, h2.only h3 hT.1, h3⟩)
                  | 16, h => exact ⟨h.1.keep hT.1.size (fun b hb hl => hT.1.block b hl (h.2 b hb)), h.2⟩
                  | 17, h => exact h
                  | 18, h => exact hT.2 h
                  | 19, h => exact ⟨h.1.keep hT.1.size (fun b hb hl => hT.1.block b hl (h.2 b hb)), h.2⟩
                  | 20, h => exact h
                  | _ + 21, h => exact trivial
                case iS =>
                  refine ⟨?s0, ?s1, ?s2, ?s3, ?s4, ?s5, ?s6, ?s7, ?s8, ?s9, ?s10, ?s11, ?s12, ?s13, ?s14, ?s15, ?s16, ?s17, ?s18, ?s19, ?s20, trivial⟩
                  case s0 =>
                    intro f W hG hW K hK
                    try dsimp only at hG
                    simp only [putF, Act.put, List.setIfInBounds_toArray, List.set_cons_zero, List.set_cons_succ, Nat.reduceAdd, Nat.zero_add] at hK ⊢
                    obtain ⟨hG1, cs4, hcs, hG2⟩ := hG
                    have hrw := (hG1.block _ (block_lt HR13.out) (by have := HG13.out; omega)).trans HR13.out
                    obtain ⟨f1, f2⟩ := row_loT 11 hrw rfl rfl
                    clear hW
                    go_simp
                    refine hK.out _ _ ⟨Only.refl _ _, id⟩ ⟨hG1, cs4, hcs, hG2⟩ ?_
                    first | with_reducible rfl | rfl
                  case s1 =>
                    intro f W hG hW K hK
                    try dsimp only at hG
                    simp only [putF, Act.put, List.setIfInBounds_toArray, List.set_cons_zero, List.set_cons_succ, Nat.reduceAdd, Nat.zero_add] at hK ⊢
                    clear hW
                    go_simp
                    refine hK.out _ _ ⟨Only.refl _ _, id⟩ hG ?_
                    first | with_reducible rfl | rfl
                  case s2 =>
                    intro f W hG hW K hK
                    try dsimp only at hG
                    simp only [putF, Act.put, List.setIfInBounds_toArray, List.set_cons_zero, List.set_cons_succ, Nat.reduceAdd, Nat.zero_add] at hK ⊢
                    clear hW
                    go_simp
                    refine hK.out _ _ ⟨Only.refl _ _, id⟩ hG ?_
                    first | with_reducible rfl | rfl
                  case s3 =>
                    intro f W hG hW K hK
                    try dsimp only at hG
                    simp only [putF, Act.put, List.setIfInBounds_toArray, List.set_cons_zero, List.set_cons_succ, Nat.reduceAdd, Nat.zero_add] at hK ⊢
                    clear hW
                    go_simp
                    refine hK.out _ _ ⟨Only.refl _ _, id⟩ hG ?_
                    first | with_reducible rfl | rfl
                  case s4 =>
                    intro f W hG hW K hK
                    try dsimp only at hG
                    have e3 := hW 3 (by kernel_rfl)
                    change f 3 = .int .i64 vv at e3
                    simp only [putF, Act.put, List.setIfInBounds_toArray, List.set_cons_zero, List.set_cons_succ, Nat.reduceAdd, Nat.zero_add] at hK ⊢
                    (try rw [e3])
                    (try rw [e3] at hK)
                    have hv1 := HV1.out
                    clear hW
                    go_simp
                    refine hK.out _ _ ⟨Only.refl _ _, id⟩ hG ?_
                    exact congrArg (Value.int .i64) (by rw [IntKind.wrap_i64]; omega)
                  case s5 =>
                    intro f W hG hW K hK
                    try dsimp only at hG
                    simp only [putF, Act.put, List.setIfInBounds_toArray, List.set_cons_zero, List.set_cons_succ, Nat.reduceAdd, Nat.zero_add] at hK ⊢
                    clear hW
                    go_simp
                    refine hK.out _ _ ⟨Only.refl _ _, id⟩ hG ?_
                    first | with_reducible rfl | rfl
                  case s6 =>
                    intro f W hG hW K hK
                    try dsimp only at hG
                    have e5 := hW 5 (by kernel_rfl)
                    change f 5 = .int .i64 xx at e5
                    simp only [putF, Act.put, List.setIfInBounds_toArray, List.set_cons_zero, List.set_cons_succ, Nat.reduceAdd, Nat.zero_add] at hK ⊢
                    (try rw [e5])
                    (try rw [e5] at hK)
                    have hx1 := HX1.out
                    clear hW
                    go_simp
                    refine hK.out _ _ ⟨Only.refl _ _, id⟩ hG ?_
                    exact congrArg (Value.int .i64) (by rw [IntKind.wrap_i64]; omega)
                  case s7 =>
                    intro f W hG hW K hK
                    try dsimp only at hG
                    have e2 := hW 2 (by kernel_rfl)
                    change f 2 = .int .i64 pen at e2
                    have e4 := hW 4 (by kernel_rfl)
                    change f 4 = .int .i64 (-vv) at e4
                    have e6 := hW 6 (by kernel_rfl)
                    change f 6 = .int .i64 (-xx) at e6
                    simp only [putF, Act.put, List.setIfInBounds_toArray, List.set_cons_zero, List.set_cons_succ, Nat.reduceAdd, Nat.zero_add] at hK ⊢
                    (try rw [e2])
                    (try rw [e2] at hK)
                    (try rw [e4])
                    (try rw [e4] at hK)
                    (try rw [e6])
                    (try rw [e6] at hK)
                    obtain ⟨hG1, cs4, hcs, hG2⟩ := hG
                    have hbl := (Below.refl W.heap.size W).alloc (Nat.le_refl _) (.cells #[.int .i64 pen, .int .i64 (-vv), .int .i64 (-xx)] 2 (0, 0))
                    have hls := ls_rowG (enc := i64C) (l := [pen, -vv, -xx]) (new_rowW W (.cells #[.int .i64 pen, .int .i64 (-vv), .int .i64 (-xx)] 2 (0, 0)) _ rfl) rfl (fun _ => rfl) (by decide) (by simp [maxLen])
                    have hne := block_lt hG2
                    clear hW
                    go_simp
                    refine hK.out _ _ ⟨Only.of_below hbl, fun ⟨c', x', h', e1, e2, e3⟩ => ⟨c', x', h', (hbl.block _ (block_lt e1)).trans e1, e2.below hbl, e3⟩⟩ ⟨hG1.trans (Only.of_below hbl), cs4, hcs, (hbl.block _ (block_lt hG2)).trans hG2⟩ ?_
                    exact ⟨W.heap.size, rfl, by omega, hls⟩
                  case s8 =>
                    intro f W hG hW K hK
                    try dsimp only at hG
                    have e7 := hW 7 (by kernel_rfl)
                    try dsimp only at e7
                    simp only [putF, Act.put, List.setIfInBounds_toArray, List.set_cons_zero, List.set_cons_succ, Nat.reduceAdd, Nat.zero_add] at hK ⊢
                    obtain ⟨hG1, cs4, hcs, hG2⟩ := hG
                    obtain ⟨g, hv, hg, hl⟩ := e7
                    simp only [hv] at hK ⊢
                    have hv1 := HV1.out
                    have hx1 := HX1.out
                    have hp1 := HPE.out
                    have hall := dall_any [pen, -vv, -xx] _ _ _ W hl (by intro y hy; simp at hy; rcases hy with rfl | rfl | rfl <;> omega) (by omega)
                    rw [show Dk.allN [pen, -vv, -xx] = pen - vv - xx by simp [Dk.allN]; omega] at hall
                    clear hW hv1 hx1 hp1
                    go_simp
                    refine hall.mono ?_
                    rintro e w' ⟨rfl, hw⟩
                    subst hw
                    refine hK.out _ _ ⟨Only.refl _ _, id⟩ ⟨hG1, cs4, hcs, hG2⟩ ?_
                    rfl
                  case s9 =>
                    intro f W hG hW K hK
                    try dsimp only at hG
                    simp only [putF, Act.put, List.setIfInBounds_toArray, List.set_cons_zero, List.set_cons_succ, Nat.reduceAdd, Nat.zero_add] at hK ⊢
                    clear hW
                    go_simp
                    refine hK.out _ _ ⟨Only.refl _ _, id⟩ hG ?_
                    first | with_reducible rfl | rfl
                  case s10 =>
                    intro f W hG hW K hK
                    try dsimp only at hG
                    simp only [putF, Act.put, List.setIfInBounds_toArray, List.set_cons_zero, List.set_cons_succ, Nat.reduceAdd, Nat.zero_add] at hK ⊢
                    clear hW
                    go_simp
                    refine hK.out _ _ ⟨Only.refl _ _, id⟩ hG ?_
                    first | with_reducible rfl | rfl
                  case s11 =>
                    intro f W hG hW K hK
                    try dsimp only at hG
                    simp only [putF, Act.put, List.setIfInBounds_toArray, List.set_cons_zero, List.set_cons_succ, Nat.reduceAdd, Nat.zero_add] at hK ⊢
                    clear hW
                    go_simp
                    refine hK.out _ _ ⟨Only.refl _ _, id⟩ hG ?_
                    first | with_reducible rfl | rfl
                  case s12 =>
                    intro f W hG hW K hK
                    try dsimp only at hG
                    have e11 := hW 11 (by kernel_rfl)
                    change f 11 = .int .i64 pen at e11
                    simp only [putF, Act.put, List.setIfInBounds_toArray, List.set_cons_zero, List.set_cons_succ, Nat.reduceAdd, Nat.zero_add] at hK ⊢
                    (try rw [e11])
                    (try rw [e11] at hK)
                    have hp1 := HPE.out
                    clear hW
                    go_simp
                    refine hK.out _ _ ⟨Only.refl _ _, id⟩ hG ?_
                    exact congrArg (Value.int .i64) (by rw [IntKind.wrap_i64]; omega)
                  case s13 =>
                    intro f W hG hW K hK
                    try dsimp only at hG
                    have e1 := hW 1 (by kernel_rfl)
                    change f 1 = .int .i64 on at e1
                    have e8 := hW 8 (by kernel_rfl)
                    change f 8 = .int .i64 (pen - vv - xx) at e8
                    have e9 := hW 9 (by kernel_rfl)
                    change f 9 = .int .i64 vv at e9
                    have e10 := hW 10 (by kernel_rfl)
                    change f 10 = .int .i64 xx at e10
                    have e12 := hW 12 (by kernel_rfl)
                    change f 12 = .int .i64 (-pen) at e12
                    simp only [putF, Act.put, List.setIfInBounds_toArray, List.set_cons_zero, List.set_cons_succ, Nat.reduceAdd, Nat.zero_add] at hK ⊢
                    (try rw [e1])
                    (try rw [e1] at hK)
                    (try rw [e8])
                    (try rw [e8] at hK)
                    (try rw [e9])
                    (try rw [e9] at hK)
                    (try rw [e10])
                    (try rw [e10] at hK)
                    (try rw [e12])
                    (try rw [e12] at hK)
                    clear hW
                    go_simp
                    refine hK.out _ _ ⟨Only.refl _ _, id⟩ hG ?_
                    first | with_reducible rfl | rfl
                  case s14 =>
                    intro f W hG hW K hK
                    try dsimp only at hG
                    have e0 := hW 0 (by kernel_rfl)
                    change f 0 = .agg #[.int .u64 tc.num, .string tc.loc, .int .i64 tc.iss, .slice a1 k1 b1, .slice a2 k2 b2, .int .u64 tc.prev, .int .u64 tc.org, .int .u64 tc.fst, .int .i64 tc.vou, .int .i64 tc.posts, .slice a3 k3 b3] at e0
                    have e8 := hW 8 (by kernel_rfl)
                    change f 8 = .int .i64 (pen - vv - xx) at e8
                    have e13 := hW 13 (by kernel_rfl)
                    change f 13 = .agg #[.int .i64 on, .int .u64 0, .int .i64 0, .int .i64 4, .int .i64 (pen - vv - xx), .int .i64 vv, .int .i64 0, .int .i64 xx, .int .i64 (-pen), .int .i64 0] at e13
                    simp only [putF, Act.put, List.setIfInBounds_toArray, List.set_cons_zero, List.set_cons_succ, Nat.reduceAdd, Nat.zero_add] at hK ⊢
                    (try rw [e0])
                    (try rw [e0] at hK)
                    (try rw [e8])
                    (try rw [e8] at hK)
                    (try rw [e13])
                    (try rw [e13] at hK)
                    obtain ⟨hG1, cs4, hcs, hG2⟩ := hG
                    have hts := HT2.out.only HOF.out hG1
                    have hne := block_lt hG2
                    clear hW
                    go_simp
                    refine (HPD.out W hts).mono ?_
                    rintro e w' ⟨c', x', h', u, rfl, ts3, hl3, hb, hof, hnb⟩
                    refine hK.out _ _ ⟨Only.of_below hb, fun ⟨c', x', h', e1, e2, e3⟩ => ⟨c', x', h', (hb.block _ (block_lt e1)).trans e1, e2.below hb, e3⟩⟩ ⟨hG1.trans (Only.of_below hb), cs4, hcs, (hb.block _ (block_lt hG2)).trans hG2⟩ ?_
                    exact ⟨c', x', h', u, rfl, ts3, hof _ HOF.out, hl3, fun b hb2 => by have := hnb b hb2; omega⟩
                  case s15 =>
                    intro f W hG hW K hK
                    try dsimp only at hG
                    have e14 := hW 14 (by kernel_rfl)
                    try dsimp only at e14
                    simp only [putF, Act.put, List.setIfInBounds_toArray, List.set_cons_zero, List.set_cons_succ, Nat.reduceAdd, Nat.zero_add] at hK ⊢
                    obtain ⟨c', x', h', u, hv, k1', k2', k3', k4'⟩ := e14
                    simp only [hv] at hK ⊢
                    clear hW
                    go_simp
                    refine hK.out _ _ ⟨Only.refl _ _, id⟩ hG ?_
                    exact ⟨c', x', h', rfl, k1', k2'⟩
                  case s16 =>
                    intro f W hG hW K hK
                    try dsimp only at hG
                    have e14 := hW 14 (by kernel_rfl)
                    try dsimp only at e14
                    simp only [putF, Act.put, List.setIfInBounds_toArray, List.set_cons_zero, List.set_cons_succ, Nat.reduceAdd, Nat.zero_add] at hK ⊢
                    obtain ⟨c', x', h', u, hv, k1', k2', k3', k4'⟩ := e14
                    simp only [hv] at hK ⊢
                    clear hW
                    go_simp
                    refine hK.out _ _ ⟨Only.refl _ _, id⟩ hG ?_
                    exact ⟨k3', k4'⟩
                  case s17 =>
                    intro f W hG hW K hK
                    try dsimp only at hG
                    have e14 := hW 14 (by kernel_rfl)
                    try dsimp only at e14
                    simp only [putF, Act.put, List.setIfInBounds_toArray, List.set_cons_zero, List.set_cons_succ, Nat.reduceAdd, Nat.zero_add] at hK ⊢
                    obtain ⟨c', x', h', u, hv, k1', k2', k3', k4'⟩ := e14
                    simp only [hv] at hK ⊢
                    clear hW
                    go_simp
                    refine hK.out _ _ ⟨Only.refl _ _, id⟩ hG ?_
                    rfl
                  case s18 =>
                    intro f W hG hW K hK
                    try dsimp only at hG
                    have e0 := hW 0 (by kernel_rfl)
                    change f 0 = .agg #[.int .u64 tc.num, .string tc.loc, .int .i64 tc.iss, .slice a1 k1 b1, .slice a2 k2 b2, .int .u64 tc.prev, .int .u64 tc.org, .int .u64 tc.fst, .int .i64 tc.vou, .int .i64 tc.posts, .slice a3 k3 b3] at e0
                    have e1 := hW 1 (by kernel_rfl)
                    change f 1 = .int .i64 on at e1
                    have e2 := hW 2 (by kernel_rfl)
                    change f 2 = .int .i64 pen at e2
                    have e3 := hW 3 (by kernel_rfl)
                    change f 3 = .int .i64 vv at e3
                    have e4 := hW 4 (by kernel_rfl)
                    change f 4 = .int .i64 (-vv) at e4
                    have e5 := hW 5 (by kernel_rfl)
                    change f 5 = .int .i64 xx at e5
                    have e6 := hW 6 (by kernel_rfl)
                    change f 6 = .int .i64 (-xx) at e6
                    have e7 := hW 7 (by kernel_rfl)
                    try dsimp only at e7
                    have e8 := hW 8 (by kernel_rfl)
                    change f 8 = .int .i64 (pen - vv - xx) at e8
                    have e9 := hW 9 (by kernel_rfl)
                    change f 9 = .int .i64 vv at e9
                    have e10 := hW 10 (by kernel_rfl)
                    change f 10 = .int .i64 xx at e10
                    have e11 := hW 11 (by kernel_rfl)
                    change f 11 = .int .i64 pen at e11
                    have e12 := hW 12 (by kernel_rfl)
                    change f 12 = .int .i64 (-pen) at e12
                    have e13 := hW 13 (by kernel_rfl)
                    change f 13 = .agg #[.int .i64 on, .int .u64 0, .int .i64 0, .int .i64 4, .int .i64 (pen - vv - xx), .int .i64 vv, .int .i64 0, .int .i64 xx, .int .i64 (-pen), .int .i64 0] at e13
                    have e14 := hW 14 (by kernel_rfl)
                    try dsimp only at e14
                    have e15 := hW 15 (by kernel_rfl)
                    try dsimp only at e15
                    have e16 := hW 16 (by kernel_rfl)
                    try dsimp only at e16
                    have e17 := hW 17 (by kernel_rfl)
                    change f 17 = .int .i64 R.2.2 at e17
                    simp only [putF, Act.put, List.setIfInBounds_toArray, List.set_cons_zero, List.set_cons_succ, Nat.reduceAdd, Nat.zero_add] at hK ⊢
                    (try rw [e0])
                    (try rw [e0] at hK)
                    (try rw [e1])
                    (try rw [e1] at hK)
                    (try rw [e2])
                    (try rw [e2] at hK)
                    (try rw [e3])
                    (try rw [e3] at hK)
                    (try rw [e4])
                    (try rw [e4] at hK)
                    (try rw [e5])
                    (try rw [e5] at hK)
                    (try rw [e6])
                    (try rw [e6] at hK)
                    (try rw [e8])
                    (try rw [e8] at hK)
                    (try rw [e9])
                    (try rw [e9] at hK)
                    (try rw [e10])
                    (try rw [e10] at hK)
                    (try rw [e11])
                    (try rw [e11] at hK)
                    (try rw [e12])
                    (try rw [e12] at hK)
                    (try rw [e13])
                    (try rw [e13] at hK)
                    (try rw [e17])
                    (try rw [e17] at hK)
                    obtain ⟨hG1, cs4, hcs, hG2⟩ := hG
                    obtain ⟨c', x', h', hv, k1', k2'⟩ := e15
                    simp only [hv] at hK ⊢
                    have th := there_rowD hG2 11 hcs
                    have h1n : ([.int .u64 R.1.num, .string R.1.loc, .int .i64 R.1.iss, .slice c'.p c'.n c'.c, .slice x'.p x'.n x'.c, .int .u64 R.1.prev, .int .u64 R.1.org, .int .u64 R.1.fst, .int .i64 R.1.vou, .int .i64 R.1.posts, .slice h'.p h'.n h'.c] : List Value).length = 11 := rfl
                    have h1c : ([.int .u64 R.1.num, .string R.1.loc, .int .i64 R.1.iss, .slice c'.p c'.n c'.c, .slice x'.p x'.n x'.c, .int .u64 R.1.prev, .int .u64 R.1.org, .int .u64 R.1.fst, .int .i64 R.1.vou, .int .i64 R.1.posts, .slice h'.p h'.n h'.c] : List Value).all (·.oneCell') = true := rfl
                    have hrw := setCells_rowA (cs := [.int .u64 R.1.num, .string R.1.loc, .int .i64 R.1.iss, .slice c'.p c'.n c'.c, .slice x'.p x'.n x'.c, .int .u64 R.1.prev, .int .u64 R.1.org, .int .u64 R.1.fst, .int .i64 R.1.vou, .int .i64 R.1.posts, .slice h'.p h'.n h'.c]) hG2 hcs
                    have ho := (Only.refl (w.heap.size + 1) W).setCells 0 [.int .u64 R.1.num, .string R.1.loc, .int .i64 R.1.iss, .slice c'.p c'.n c'.c, .slice x'.p x'.n x'.c, .int .u64 R.1.prev, .int .u64 R.1.org, .int .u64 R.1.fst, .int .i64 R.1.vou, .int .i64 R.1.posts, .slice h'.p h'.n h'.c]
                    have hts := k1'.only k2' ho
                    have HRW := Lib.hid hrw; have HO1 := Lib.hid ho; have HTQ := Lib.hid hts
                    clear hW hrw ho hts
                    go_simp
                    refine hK.out undef _ ⟨HO1.out, fun _ => ⟨c', x', h', HRW.out, HTQ.out, k2'⟩⟩ ⟨hG1.trans HO1.out, _, rfl, HRW.out⟩ ?_
                    exact ⟨c', x', h', HRW.out, HTQ.out, k2'⟩
                  case s19 =>
                    intro f W hG hW K hK
                    try dsimp only at hG
                    have e0 := hW 0 (by kernel_rfl)
                    change f 0 = .agg #[.int .u64 tc.num, .string tc.loc, .int .i64 tc.iss, .slice a1 k1 b1, .slice a2 k2 b2, .int .u64 tc.prev, .int .u64 tc.org, .int .u64 tc.fst, .int .i64 tc.vou, .int .i64 tc.posts, .slice a3 k3 b3] at e0
                    have e1 := hW 1 (by kernel_rfl)
                    change f 1 = .int .i64 on at e1
                    have e2 := hW 2 (by kernel_rfl)
                    change f 2 = .int .i64 pen at e2
                    have e3 := hW 3 (by kernel_rfl)
                    change f 3 = .int .i64 vv at e3
                    have e4 := hW 4 (by kernel_rfl)
                    change f 4 = .int .i64 (-vv) at e4
                    have e5 := hW 5 (by kernel_rfl)
                    change f 5 = .int .i64 xx at e5
                    have e6 := hW 6 (by kernel_rfl)
                    change f 6 = .int .i64 (-xx) at e6
                    have e7 := hW 7 (by kernel_rfl)
                    try dsimp only at e7
                    have e8 := hW 8 (by kernel_rfl)
                    change f 8 = .int .i64 (pen - vv - xx) at e8
                    have e9 := hW 9 (by kernel_rfl)
                    change f 9 = .int .i64 vv at e9
                    have e10 := hW 10 (by kernel_rfl)
                    change f 10 = .int .i64 xx at e10
                    have e11 := hW 11 (by kernel_rfl)
                    change f 11 = .int .i64 pen at e11
                    have e12 := hW 12 (by kernel_rfl)
                    change f 12 = .int .i64 (-pen) at e12
                    have e13 := hW 13 (by kernel_rfl)
                    change f 13 = .agg #[.int .i64 on, .int .u64 0, .int .i64 0, .int .i64 4, .int .i64 (pen - vv - xx), .int .i64 vv, .int .i64 0, .int .i64 xx, .int .i64 (-pen), .int .i64 0] at e13
                    have e14 := hW 14 (by kernel_rfl)
                    try dsimp only at e14
                    have e15 := hW 15 (by kernel_rfl)
                    try dsimp only at e15
                    have e16 := hW 16 (by kernel_rfl)
                    try dsimp only at e16
                    have e17 := hW 17 (by kernel_rfl)
                    change f 17 = .int .i64 R.2.2 at e17
                    have e18 := hW 18 (by kernel_rfl)
                    try dsimp only at e18
                    simp only [putF, Act.put, List.setIfInBounds_toArray, List.set_cons_zero, List.set_cons_succ, Nat.reduceAdd, Nat.zero_add] at hK ⊢
                    (try rw [e0])
                    (try rw [e0] at hK)
                    (try rw [e1])
                    (try rw [e1] at hK)
                    (try rw [e2])
                    (try rw [e2] at hK)
                    (try rw [e3])
                    (try rw [e3] at hK)
                    (try rw [e4])
                    (try rw [e4] at hK)
                    (try rw [e5])
                    (try rw [e5] at hK)
                    (try rw [e6])
                    (try rw [e6] at hK)
                    (try rw [e8])
                    (try rw [e8] at hK)
                    (try rw [e9])
                    (try rw [e9] at hK)
                    (try rw [e10])
                    (try rw [e10] at hK)
                    (try rw [e11])
                    (try rw [e11] at hK)
                    (try rw [e12])
                    (try rw [e12] at hK)
                    (try rw [e13])
                    (try rw [e13] at hK)
                    (try rw [e17])
                    (try rw [e17] at hK)
                    clear hW
                    go_simp
                    refine hK.out _ _ ⟨Only.refl _ _, id⟩ hG ?_
                    exact e16
                  case s20 =>
                    intro f W hG hW K hK
                    try dsimp only at hG
                    have e0 := hW 0 (by kernel_rfl)
                    change f 0 = .agg #[.int .u64 tc.num, .string tc.loc, .int .i64 tc.iss, .slice a1 k1 b1, .slice a2 k2 b2, .int .u64 tc.prev, .int .u64 tc.org, .int .u64 tc.fst, .int .i64 tc.vou, .int .i64 tc.posts, .slice a3 k3 b3] at e0
                    have e1 := hW 1 (by kernel_rfl)
                    change f 1 = .int .i64 on at e1
                    have e2 := hW 2 (by kernel_rfl)
                    change f 2 = .int .i64 pen at e2
                    have e3 := hW 3 (by kernel_rfl)
                    change f 3 = .int .i64 vv at e3
                    have e4 := hW 4 (by kernel_rfl)
                    change f 4 = .int .i64 (-vv) at e4
                    have e5 := hW 5 (by kernel_rfl)
                    change f 5 = .int .i64 xx at e5
                    have e6 := hW 6 (by kernel_rfl)
                    change f 6 = .int .i64 (-xx) at e6
                    have e7 := hW 7 (by kernel_rfl)
                    try dsimp only at e7
                    have e8 := hW 8 (by kernel_rfl)
                    change f 8 = .int .i64 (pen - vv - xx) at e8
                    have e9 := hW 9 (by kernel_rfl)
                    change f 9 = .int .i64 vv at e9
                    have e10 := hW 10 (by kernel_rfl)
                    change f 10 = .int .i64 xx at e10
                    have e11 := hW 11 (by kernel_rfl)
                    change f 11 = .int .i64 pen at e11
                    have e12 := hW 12 (by kernel_rfl)
                    change f 12 = .int .i64 (-pen) at e12
                    have e13 := hW 13 (by kernel_rfl)
                    change f 13 = .agg #[.int .i64 on, .int .u64 0, .int .i64 0, .int .i64 4, .int .i64 (pen - vv - xx), .int .i64 vv, .int .i64 0, .int .i64 xx, .int .i64 (-pen), .int .i64 0] at e13
                    have e14 := hW 14 (by kernel_rfl)
                    try dsimp only at e14
                    have e15 := hW 15 (by kernel_rfl)
                    try dsimp only at e15
                    have e16 := hW 16 (by kernel_rfl)
                    try dsimp only at e16
                    have e17 := hW 17 (by kernel_rfl)
                    change f 17 = .int .i64 R.2.2 at e17
                    have e18 := hW 18 (by kernel_rfl)
                    try dsimp only at e18
                    have e19 := hW 19 (by kernel_rfl)
                    try dsimp only at e19
                    simp only [putF, Act.put, List.setIfInBounds_toArray, List.set_cons_zero, List.set_cons_succ, Nat.reduceAdd, Nat.zero_add] at hK ⊢
                    (try rw [e0])
                    (try rw [e0] at hK)
                    (try rw [e1])
                    (try rw [e1] at hK)
                    (try rw [e2])
                    (try rw [e2] at hK)
                    (try rw [e3])
                    (try rw [e3] at hK)
                    (try rw [e4])
                    (try rw [e4] at hK)
                    (try rw [e5])
                    (try rw [e5] at hK)
                    (try rw [e6])
                    (try rw [e6] at hK)
                    (try rw [e8])
                    (try rw [e8] at hK)
                    (try rw [e9])
                    (try rw [e9] at hK)
                    (try rw [e10])
                    (try rw [e10] at hK)
                    (try rw [e11])
                    (try rw [e11] at hK)
                    (try rw [e12])
                    (try rw [e12] at hK)
                    (try rw [e13])
                    (try rw [e13] at hK)
                    (try rw [e17])
                    (try rw [e17] at hK)
                    clear hW
                    go_simp
                    refine hK.out _ _ ⟨Only.refl _ _, id⟩ hG ?_
                    first | with_reducible rfl | rfl
                case iD =>
                  intro f W hG hR
                  try dsimp only at hG
                  have r0 := hR 0 (by decide)
                  change f 0 = .agg #[.int .u64 tc.num, .string tc.loc, .int .i64 tc.iss, .slice a1 k1 b1, .slice a2 k2 b2, .int .u64 tc.prev, .int .u64 tc.org, .int .u64 tc.fst, .int .i64 tc.vou, .int .i64 tc.posts, .slice a3 k3 b3] at r0
                  have r1 := hR 1 (by decide)
                  change f 1 = .int .i64 on at r1
                  have r2 := hR 2 (by decide)
                  change f 2 = .int .i64 pen at r2
                  have r3 := hR 3 (by decide)
                  change f 3 = .int .i64 vv at r3
                  have r4 := hR 4 (by decide)
                  change f 4 = .int .i64 (-vv) at r4
                  have r5 := hR 5 (by decide)
                  change f 5 = .int .i64 xx at r5
                  have r6 := hR 6 (by decide)
                  change f 6 = .int .i64 (-xx) at r6
                  have r7 := hR 7 (by decide)
                  try dsimp only at r7
                  have r8 := hR 8 (by decide)
                  change f 8 = .int .i64 (pen - vv - xx) at r8
                  have r9 := hR 9 (by decide)
                  change f 9 = .int .i64 vv at r9
                  have r10 := hR 10 (by decide)
                  change f 10 = .int .i64 xx at r10
                  have r11 := hR 11 (by decide)
                  change f 11 = .int .i64 pen at r11
                  have r12 := hR 12 (by decide)
                  change f 12 = .int .i64 (-pen) at r12
                  have r13 := hR 13 (by decide)
                  change f 13 = .agg #[.int .i64 on, .int .u64 0, .int .i64 0, .int .i64 4, .int .i64 (pen - vv - xx), .int .i64 vv, .int .i64 0, .int .i64 xx, .int .i64 (-pen), .int .i64 0] at r13
                  have r14 := hR 14 (by decide)
                  try dsimp only at r14
                  have r15 := hR 15 (by decide)
                  try dsimp only at r15
                  have r16 := hR 16 (by decide)
                  try dsimp only at r16
                  have r17 := hR 17 (by decide)
                  change f 17 = .int .i64 R.2.2 at r17
                  have r18 := hR 18 (by decide)
                  try dsimp only at r18
                  have r19 := hR 19 (by decide)
                  try dsimp only at r19
                  have r20 := hR 20 (by decide)
                  change f 20 = .int .i64 R.2.2 at r20
                  clear hR
                  simp only [putF, Act.put, List.setIfInBounds_toArray, List.set_cons_zero, List.set_cons_succ, Nat.reduceAdd, Nat.zero_add]
                  (try rw [r0])
                  (try rw [r1])
                  (try rw [r2])
                  (try rw [r3])
                  (try rw [r4])
                  (try rw [r5])
                  (try rw [r6])
                  (try rw [r8])
                  (try rw [r9])
                  (try rw [r10])
                  (try rw [r11])
                  (try rw [r12])
                  (try rw [r13])
                  (try rw [r17])
                  (try rw [r20])
                  obtain ⟨hG1, -⟩ := hG
                  obtain ⟨c', x', h', hrw, hts, hof⟩ := r18
                  obtain ⟨hl16, hb16⟩ := r16
                  obtain ⟨hl19, hb19⟩ := r19
                  have HF1 := Lib.hid hG1; have HF2 := Lib.hid hrw; have HF3 := Lib.hid hts; have HF4 := Lib.hid hl19
                  clear hG1 hrw hts hof hl16 hb16 hl19 hb19 r0 r1 r2 r3 r4 r5 r6 r7 r8 r9 r10 r11 r12 r13 r14 r15 r17 r20
                  go_wp2
                  refine bodyPost_ret (results_cellT3 rfl _ _ (w.heap.size + 1) rfl (loadTk HF2.out rfl)) rfl ?_
                  exact ⟨c', x', h', _, rfl, HF3.out, HF4.out, Only.below HB1.out (by omega) HB1.out.size HF1.out⟩
              · have hne : (ec != 0) = true := bne_iff_ne.2 h0
                have HR2 : Hid (R = (Tkt.zTk, [], ec)) := Lib.hid (by rw [← HRV.out]; unfold Dk.refundD; rw [if_neg (by rw [HE.out, HPB.out]; decide), if_neg (by rw [HE.out]; decide), if_neg (by rw [HBQ.out]; decide), HVV.out, HXX.out, if_neg (Int.not_lt.2 HNP.out), HRC.out, if_pos h0])
                clear h0
                go_upto_region 14 with fail
                clear th h1n h1c
                have HBB := Lib.hid HP.out.2
                have HR0 := Lib.hid ((HBB.out.block _ (block_lt HR0.out)).trans HR0.out); have HR1 := Lib.hid ((HBB.out.block _ (block_lt HR1.out)).trans HR1.out)
                have HB1 := Lib.hid (HB1.out.trans (HBB.out.mono HB1.out.size))
                clear HBB HP
                generalize (w6.alloc (.cells #[.int .u64 0, .string ⟨#[]⟩, .int .i64 0, .slice none 0 0, .slice none 0 0, .int .u64 0, .int .u64 0, .int .u64 0, .int .i64 0, .int .i64 0, .slice none 0 0] 45 (0, 0))).setCells w6.heap.size 0 [.int .u64 tc.num, .string tc.loc, .int .i64 tc.iss, .slice a1 k1 b1, .slice a2 k2 b2, .int .u64 tc.prev, .int .u64 tc.org, .int .u64 tc.fst, .int .i64 tc.vou, .int .i64 tc.posts, .slice a3 k3 b3] = w7 at *
                have th := there_rowD HR1.out 11 rfl
                have h1n : ([.int .u64 0, .string ⟨#[]⟩, .int .i64 0, .slice none 0 0, .slice none 0 0, .int .u64 0, .int .u64 0, .int .u64 0, .int .i64 0, .int .i64 0, .slice none 0 0] : List Value).length = 11 := rfl
                have h1c : ([.int .u64 0, .string ⟨#[]⟩, .int .i64 0, .slice none 0 0, .slice none 0 0, .int .u64 0, .int .u64 0, .int .u64 0, .int .i64 0, .int .i64 0, .slice none 0 0] : List Value).all (·.oneCell') = true := rfl
                go_wp2
                have hrr := setCells_rowT (cs := [.int .u64 0, .string ⟨#[]⟩, .int .i64 0, .slice none 0 0, .slice none 0 0, .int .u64 0, .int .u64 0, .int .u64 0, .int .i64 0, .int .i64 0, .slice none 0 0]) (zs := [.int .u64 0, .string ⟨#[]⟩, .int .i64 0, .slice none 0 0, .slice none 0 0, .int .u64 0, .int .u64 0, .int .u64 0, .int .i64 0, .int .i64 0, .slice none 0 0]) HR1.out rfl
                refine bodyPost_ret (results_cellT3 rfl _ _ (w.heap.size + 1) rfl (loadTk hrr rfl)) rfl ?_
                rw [HR2.out]
                exact ⟨⟨none, 0, 0⟩, ⟨none, 0, 0⟩, ⟨none, 0, 0⟩, .slice none 0 0, rfl, TS.zero _, LS.nil _, Only.below HB1.out (by omega) HB1.out.size ((Only.refl _ _).setCells 0 _)⟩
        · have HR2 : Hid (R = (Tkt.zTk, [], 15)) := Lib.hid (by rw [← HRV.out]; unfold Dk.refundD; rw [if_neg (by rw [HE.out, HPB.out]; decide), if_pos (by rw [HE.out]; decide), HE.out])
          have th := there_rowD HR1.out 11 rfl
          have h1n : ([.int .u64 0, .string ⟨#[]⟩, .int .i64 0, .slice none 0 0, .slice none 0 0, .int .u64 0, .int .u64 0, .int .u64 0, .int .i64 0, .int .i64 0, .slice none 0 0] : List Value).length = 11 := rfl
          have h1c : ([.int .u64 0, .string ⟨#[]⟩, .int .i64 0, .slice none 0 0, .slice none 0 0, .int .u64 0, .int .u64 0, .int .u64 0, .int .i64 0, .int .i64 0, .slice none 0 0] : List Value).all (·.oneCell') = true := rfl
          go_wp2
          have hrr := setCells_rowT (cs := [.int .u64 0, .string ⟨#[]⟩, .int .i64 0, .slice none 0 0, .slice none 0 0, .int .u64 0, .int .u64 0, .int .u64 0, .int .i64 0, .int .i64 0, .slice none 0 0]) (zs := [.int .u64 0, .string ⟨#[]⟩, .int .i64 0, .slice none 0 0, .slice none 0 0, .int .u64 0, .int .u64 0, .int .u64 0, .int .i64 0, .int .i64 0, .slice none 0 0]) HR1.out rfl
          refine bodyPost_ret (results_cellT3 rfl _ _ (w.heap.size + 1) rfl (loadTk hrr rfl)) rfl ?_
          rw [HR2.out]
          exact ⟨⟨none, 0, 0⟩, ⟨none, 0, 0⟩, ⟨none, 0, 0⟩, .slice none 0 0, rfl, TS.zero _, LS.nil _, Only.below HB1.out (by omega) HB1.out.size ((Only.refl _ _).setCells 0 _)⟩
end Go.Proofs.Ytadabjkhiaidcaa
