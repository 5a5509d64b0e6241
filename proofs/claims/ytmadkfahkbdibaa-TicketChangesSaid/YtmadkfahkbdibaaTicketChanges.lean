/- The law TicketChanges. -/
import Derived.Test.YtmadkfahkbdibaaTrJ
import Derived.Test.YtmadkfahkbdibaaTrM
import Derived.Test.YtmadkfahkbdibaaTkW
set_option linter.unusedVariables false
set_option linter.unusedSimpArgs false
namespace Go.Proofs.Ytmadkfahkbdibaa.ticketChanges
open Go.ChangeShapes Go.WideShapes Go.ChangeAt Go.RowKit Go.Deep

attribute [local go_sem ↓] Tk_execLoad Tk_execStore
attribute [local go_sem] Tk_load Tk_store loL_drew okL_drew there_sc World.there_drew
/-- what a round works on: the ticket's box g, and the ticket in it -/
structure CAt (w W : World) (g : Nat) (t : Tk) (c x h : Sl) : Prop where
  b : Below w.heap.size w W
  r : W.heap[g]? = some (.cells #[.int .u64 t.num, .string t.loc, .int .i64 t.iss, .slice c.p c.n c.c, .slice x.p x.n x.c, .int .u64 t.prev, .int .u64 t.org, .int .u64 t.fst, .int .i64 t.vou, .int .i64 t.posts, .slice h.p h.n h.c] 27 (0, 0))
  s : TS W t c x h
  o : Off g t c x h
  l : t.cs.length ≤ 20 ∧ t.ts.length ≤ 20 ∧ t.hs.length ≤ 100
theorem CAt.below {w W W' : World} {g : Nat} {t : Tk} {c x h : Sl} (a : CAt w W g t c x h) (hb : Below W.heap.size W W') : CAt w W' g t c x h :=
  ⟨a.b.trans (hb.mono a.b.size), (hb.block _ (block_lt a.r)).trans a.r, a.s.below hb, a.o, a.l⟩
/-- the box takes another ticket, whose lists lie elsewhere -/
theorem CAt.turn {w W : World} {g : Nat} {t t' : Tk} {c x h c' x' h' : Sl} {vs : List Value} (a : CAt w W g t c x h) (hg : w.heap.size ≤ g) (hv : vs = [.int .u64 t'.num, .string t'.loc, .int .i64 t'.iss, .slice c'.p c'.n c'.c, .slice x'.p x'.n x'.c, .int .u64 t'.prev, .int .u64 t'.org, .int .u64 t'.fst, .int .i64 t'.vou, .int .i64 t'.posts, .slice h'.p h'.n h'.c]) (s : TS W t' c' x' h') (o : Off g t' c' x' h') (l : t'.cs.length ≤ 20 ∧ t'.ts.length ≤ 20 ∧ t'.hs.length ≤ 100) : CAt w (W.setCells g 0 vs) g t' c' x' h' := by
  subst hv
  exact ⟨Only.below a.b hg a.b.size ((Only.refl g W).setCells 0 _), setCells_rowT (zs := [.int .u64 t.num, .string t.loc, .int .i64 t.iss, .slice c.p c.n c.c, .slice x.p x.n x.c, .int .u64 t.prev, .int .u64 t.org, .int .u64 t.fst, .int .i64 t.vou, .int .i64 t.posts, .slice h.p h.n h.c]) a.r rfl, s.only o ((Only.refl g W).setCells 0 _), o, l⟩
/-- what a change that is done makes of it stays within the bounds -/
theorem lens_chg {t : Tk} {k : Nat} {y : Cpn} {on tq wi : Int} (d : Tkt.Done t k y on tq wi) : (Tkt.chg t ((k : Int) + 1) on tq wi).cs.length ≤ 20 ∧ (Tkt.chg t ((k : Int) + 1) on tq wi).ts.length ≤ 20 ∧ (Tkt.chg t ((k : Int) + 1) on tq wi).hs.length ≤ 100 := by
  have := Tkt.mayB_lens (Tkt.may_chg d)
  omega
theorem zTk_wf : Tkt.zTk.wf := ⟨⟨by decide, by decide⟩, by decide, ⟨by decide, by decide⟩, by simp [Tkt.zTk], by simp [Tkt.zTk], ⟨by decide, by decide⟩, ⟨by decide, by decide⟩, ⟨by decide, by decide⟩, ⟨by decide, by decide⟩, ⟨by decide, by decide⟩, by simp [Tkt.zTk]⟩
theorem wf_chgT {t : Tk} {co on tq wi : Int} (hw : t.wf) (ho : I64 on) (hwi : U64 wi) : (Tkt.chgT t co on tq wi).wf := by
  unfold Tkt.chgT
  split
  · rename_i h0
    obtain ⟨k, y, rfl, d⟩ := Tkt.done_of h0
    exact Tkt.wf_chg d hw ho hwi
  · exact zTk_wf
theorem chgT_ok {t t' : Tk} {co on tq wi : Int} (h0 : Tkt.errC t co on tq wi = 0) (ht : Tkt.chgT t co on tq wi = t') : Tkt.mayB t' = true ∧ t'.cs.length ≤ 20 ∧ t'.ts.length ≤ 20 ∧ t'.hs.length ≤ 100 := by
  subst ht
  unfold Tkt.chgT
  rw [if_pos h0]
  obtain ⟨k, y, rfl, d⟩ := Tkt.done_of h0
  exact ⟨Tkt.may_chg d, lens_chg d⟩
set_option maxRecDepth 8000 in
set_option maxHeartbeats 8000000 in
theorem walk (t : Tk) (c x h : Sl) (l : List Stp) (p : Option Addr) (n cap : Nat) (hlw : ∀ s ∈ l, s.wf) (w : World) (ts : TS w t c x h) (hst : LS Stp.cells 4 w (.slice p n cap) l) : Calls Try.prog 3 #[.agg #[.int .u64 t.num, .string t.loc, .int .i64 t.iss, .slice c.p c.n c.c, .slice x.p x.n x.c, .int .u64 t.prev, .int .u64 t.org, .int .u64 t.fst, .int .i64 t.vou, .int .i64 t.posts, .slice h.p h.n h.c], .slice p n cap] w fun e w' => e = .returned (.bool true) ∧ Below w.heap.size w w' := by
  have HST := Lib.hid hst
  have HTT := Lib.hid ts
  have HKN := Lib.hid (fun W => known13_any W)
  have HM := Lib.hid (fun W hW => rmuch_any t c x h W (ts.below hW))
  have HNL : Hid (n = l.length) := Lib.hid hst.length.1
  have hn2 : n ≤ 9223372036854775807 := by have h1 := hst.length.2.1; have h2 := hst.length.2.2; unfold maxLen at h2; omega
  have HLW := Lib.hid hlw
  obtain ⟨mu, hmu⟩ : ∃ m, Tkt.muchB t = m := ⟨_, rfl⟩
  have HMU := Lib.hid hmu
  rw [hmu] at HM
  have HB := Lib.hid ((Below.refl w.heap.size w).alloc (Nat.le_refl _) (.cells #[.int .u64 t.num, .string t.loc, .int .i64 t.iss, .slice c.p c.n c.c, .slice x.p x.n x.c, .int .u64 t.prev, .int .u64 t.org, .int .u64 t.fst, .int .i64 t.vou, .int .i64 t.posts, .slice h.p h.n h.c] 27 (0, 0)))
  have HR := Lib.hid (new_rowW w (.cells #[.int .u64 t.num, .string t.loc, .int .i64 t.iss, .slice c.p c.n c.c, .slice x.p x.n x.c, .int .u64 t.prev, .int .u64 t.org, .int .u64 t.fst, .int .i64 t.vou, .int .i64 t.posts, .slice h.p h.n h.c] 27 (0, 0)) _ rfl)
  obtain ⟨f1, f2⟩ := row_loT 11 HR.out rfl rfl
  clear hmu hst hlw
  by_cases hgo : mu = false ∧ n ≤ 70
  · obtain ⟨rfl, h70⟩ := hgo
    have hlen : t.cs.length ≤ 20 ∧ t.ts.length ≤ 20 ∧ t.hs.length ≤ 100 := by have := HMU.out; unfold Tkt.muchB at this; simp at this; omega
    have HA : Hid (CAt w (w.alloc (.cells #[.int .u64 t.num, .string t.loc, .int .i64 t.iss, .slice c.p c.n c.c, .slice x.p x.n x.c, .int .u64 t.prev, .int .u64 t.org, .int .u64 t.fst, .int .i64 t.vou, .int .i64 t.posts, .slice h.p h.n h.c] 27 (0, 0))) w.heap.size t c x h) := Lib.hid ⟨HB.out, HR.out, HTT.out.below HB.out, Off.of_old HTT.out (Nat.le_refl _), hlen⟩
    clear hlen
    go_enter Try.func3, Try.ntmps3
    go_upto_region 3 with (go_at_call 11; refine (HM.out _ HB.out).mono ?_; rintro e wn ⟨rfl, hbn⟩; have HB := Lib.hid (HB.out.trans (hbn.mono HB.out.size)); have hbn0 := hbn; clear hbn; have HA := Lib.hid (HA.out.below hbn0))
    clear f1 f2
    go_wp2_with fail
    go_loopw [5] (fun i wr => ∃ (k : Nat) (t : Tk) (c x h : Sl), k ≤ n ∧ i = .int .i64 k ∧ CAt w wr w.heap.size t c x h) (fun i _ => n - (intOf i).toNat)
    case atStart => exact ⟨0, t, c, x, h, Nat.zero_le _, rfl, HA.out⟩
    case round =>
      obtain ⟨k, t, c, x, h, hk, rfl, hrel⟩ := hrel
      have HA := Lib.hid hrel
      clear hrel
      by_cases hlt : k < n
      · obtain ⟨s, hs⟩ : ∃ s, l[k]? = some s := ⟨_, List.getElem?_eq_getElem (by have := HNL.out; omega)⟩
        have HSS := Lib.hid hs
        obtain ⟨hco, hon, hwi⟩ := HLW.out s (List.mem_of_getElem? hs)
        have HCH := Lib.hid (fun W ts => tchange_any t c x h s.co s.on s.tq s.wi hco hon hwi W ts)
        have HRC := Lib.hid (fun W ts => rchange_any t c x h s.co s.on s.tq s.wi hco hon hwi W ts)
        have HON := Lib.hid hon
        have HWI := Lib.hid hwi
        clear hon hwi hco
        obtain ⟨f1, f2⟩ := row_loT 11 HA.out.r rfl rfl
        go_upto_region 7 with (go_at_call 13; refine (rcopy_any t c x h _ HA.out.s (by have := HA.out.l; omega) (by have := HA.out.l; omega) (by have := HA.out.l; omega)).mono ?_; rintro e wn ⟨⟨a1, k1, b1⟩, ⟨a2, k2, b2⟩, ⟨a3, k3, b3⟩, rfl, hw1, hw2, hw3, hbn⟩; have HT5 := Lib.hid (TS.of_own (t := t) (c := ⟨a1, k1, b1⟩) (x := ⟨a2, k2, b2⟩) (h := ⟨a3, k3, b3⟩) HA.out.s.wf hw1 hw2 hw3); clear hw1 hw2 hw3; have th := there_newT (w := wn) (zs := [.int .u64 0, .string ⟨#[]⟩, .int .i64 0, .slice none 0 0, .slice none 0 0, .int .u64 0, .int .u64 0, .int .u64 0, .int .i64 0, .int .i64 0, .slice none 0 0]) (e := 27) (n := 11) rfl; have h1n : ([.int .u64 t.num, .string t.loc, .int .i64 t.iss, .slice a1 k1 b1, .slice a2 k2 b2, .int .u64 t.prev, .int .u64 t.org, .int .u64 t.fst, .int .i64 t.vou, .int .i64 t.posts, .slice a3 k3 b3] : List Value).length = 11 := rfl; have h1c : ([.int .u64 t.num, .string t.loc, .int .i64 t.iss, .slice a1 k1 b1, .slice a2 k2 b2, .int .u64 t.prev, .int .u64 t.org, .int .u64 t.fst, .int .i64 t.vou, .int .i64 t.posts, .slice a3 k3 b3] : List Value).all (·.oneCell') = true := rfl; have HA := Lib.hid (HA.out.below hbn); obtain ⟨f1, f2⟩ := row_loT 11 HA.out.r rfl rfl; clear hbn)
        have HP := Lib.hid (putTk (W := wn) (cs := [.int .u64 t.num, .string t.loc, .int .i64 t.iss, .slice a1 k1 b1, .slice a2 k2 b2, .int .u64 t.prev, .int .u64 t.org, .int .u64 t.fst, .int .i64 t.vou, .int .i64 t.posts, .slice a3 k3 b3]) rfl)
        have HT5 := Lib.hid (HT5.out.below HP.out.2)
        have HA := Lib.hid (HA.out.below HP.out.2)
        have HRg6 := Lib.hid HP.out.1
        clear HP th h1n h1c f1 f2
        generalize (wn.alloc (.cells #[.int .u64 0, .string ⟨#[]⟩, .int .i64 0, .slice none 0 0, .slice none 0 0, .int .u64 0, .int .u64 0, .int .u64 0, .int .i64 0, .int .i64 0, .slice none 0 0] 27 (0, 0))).setCells wn.heap.size 0 [.int .u64 t.num, .string t.loc, .int .i64 t.iss, .slice a1 k1 b1, .slice a2 k2 b2, .int .u64 t.prev, .int .u64 t.org, .int .u64 t.fst, .int .i64 t.vou, .int .i64 t.posts, .slice a3 k3 b3] = w5 at *
        generalize wn.heap.size = g6 at *
        obtain ⟨sb, so, hp, hbl, hr⟩ := (HST.out.below HA.out.b).at hs
        subst hp
        clear hbl hr hs
        obtain ⟨t', ht'⟩ : ∃ t', Tkt.chgT t s.co s.on s.tq s.wi = t' := ⟨_, rfl⟩
        obtain ⟨er, her⟩ : ∃ er, Tkt.errC t s.co s.on s.tq s.wi = er := ⟨_, rfl⟩
        rw [ht', her] at HCH HRC
        have HT' := Lib.hid ht'; have HER := Lib.hid her
        have HWF : Hid (t'.wf) := Lib.hid (by rw [← ht']; exact wf_chgT HA.out.s.wf HON.out HWI.out)
        clear ht' her
        have HA := Lib.hid (HA.out.below (Below.refl _ _).drew)
        have HRg6 := Lib.hid (row_drewT HRg6.out)
        have HT5 := Lib.hid (HT5.out.below (Below.refl _ _).drew)
        refine wp_region_G (C := fun W => loL 11 W w.heap.size 0 = [.int .u64 t.num, .string t.loc, .int .i64 t.iss, .slice c.p c.n c.c, .slice x.p x.n x.c, .int .u64 t.prev, .int .u64 t.org, .int .u64 t.fst, .int .i64 t.vou, .int .i64 t.posts, .slice h.p h.n h.c] ∧ okL 11 W w.heap.size 0 ∧ W.cell? ⟨sb, so + k * 4, none⟩ = some (.int .i64 s.co) ∧ W.cell? ⟨sb, so + k * 4 + 1, none⟩ = some (.int .i64 s.on) ∧ W.cell? ⟨sb, so + k * 4 + 2, none⟩ = some (.int .i64 s.tq) ∧ W.cell? ⟨sb, so + k * 4 + 3, none⟩ = some (.int .u64 s.wi)) (s0 := 21) (by kernel_rfl) ?_
        generalize w5.drew = wd at *
        have HCC : Hid (∀ W, Below wd.heap.size wd W → (loL 11 W w.heap.size 0 = [.int .u64 t.num, .string t.loc, .int .i64 t.iss, .slice c.p c.n c.c, .slice x.p x.n x.c, .int .u64 t.prev, .int .u64 t.org, .int .u64 t.fst, .int .i64 t.vou, .int .i64 t.posts, .slice h.p h.n h.c] ∧ okL 11 W w.heap.size 0 ∧ W.cell? ⟨sb, so + k * 4, none⟩ = some (.int .i64 s.co) ∧ W.cell? ⟨sb, so + k * 4 + 1, none⟩ = some (.int .i64 s.on) ∧ W.cell? ⟨sb, so + k * 4 + 2, none⟩ = some (.int .i64 s.tq) ∧ W.cell? ⟨sb, so + k * 4 + 3, none⟩ = some (.int .u64 s.wi))) := Lib.hid (fun W hW => by
          obtain ⟨f1, f2⟩ := row_loT 11 (HA.out.below hW).r rfl rfl
          obtain ⟨sb2, so2, hp2, hbl2, hr2⟩ := (HST.out.below (HA.out.below hW).b).at HSS.out
          injection hp2 with hp2; injection hp2 with hp3 hp4; subst hp3; subst hp4
          exact ⟨f1, f2, hr2 0 _ rfl, hr2 1 _ rfl, hr2 2 _ rfl, hr2 3 _ rfl⟩)
        have hHeld := HCC.out wd (Below.refl _ _)
        refine wpAnyG_takeM (i := 0) (oi := { dst := some 28, op := Op.load 27 (Operand.tmp 2), type := 27, pos := "law.go:84", after := #[], guard := none }) (v := ?_) (ms := [21, 22, 23, 24, 26, 27]) rfl (by kernel_rfl) (by kernel_rfl) (by kernel_rfl) (by kernel_rfl) (by kernel_rfl) (fun _ _ _ h => h) (Or.inl ⟨by rfl, ?_⟩) (by assumption) ?_
        rotate_left
        · intro w hSw; (try dsimp only at hSw); go_simp; try with_reducible rfl
        try simp only [Act.put, List.setIfInBounds_toArray, List.set_cons_zero, List.set_cons_succ]
        refine wpAnyG_takeU (i := 1) (oi := { dst := some 29, op := Op.move (Operand.tmp 1), type := 28, pos := "law.go:84", after := #[], guard := none }) (v := ?_) rfl (by kernel_rfl) (by kernel_rfl) (by kernel_rfl) (by decide) (fun _ _ _ h => h) (Or.inl ⟨by rfl, ?_⟩) (.inl (by assumption)) ?_
        rotate_left
        · intro w hSw; go_simp; try with_reducible rfl
        try simp only [Act.put, List.setIfInBounds_toArray, List.set_cons_zero, List.set_cons_succ]
        refine wpAnyG_takeU (i := 2) (oi := { dst := some 30, op := Op.move (Operand.tmp 5), type := 3, pos := "law.go:84", after := #[], guard := none }) (v := ?_) rfl (by kernel_rfl) (by kernel_rfl) (by kernel_rfl) (by decide) (fun _ _ _ h => h) (Or.inl ⟨by rfl, ?_⟩) (.inl (by assumption)) ?_
        rotate_left
        · intro w hSw; go_simp; try with_reducible rfl
        try simp only [Act.put, List.setIfInBounds_toArray, List.set_cons_zero, List.set_cons_succ]
        refine wpAnyG_takeU (i := 3) (oi := { dst := some 31, op := Op.indexAddr 28 (Operand.tmp 29) (Operand.tmp 30), type := 0, pos := "law.go:84", after := #[{ on := 1, ground := Ground.data }, { on := 2, ground := Ground.data }], guard := none }) (v := ?_) rfl (by kernel_rfl) (by kernel_rfl) (by kernel_rfl) (by decide) (fun _ _ _ h => h) (Or.inl ⟨by rfl, ?_⟩) (.inl (by assumption)) ?_
        rotate_left
        · intro w hSw; go_simp; try with_reducible rfl
        try simp only [Act.put, List.setIfInBounds_toArray, List.set_cons_zero, List.set_cons_succ]
        refine wpAnyG_takeU (i := 4) (oi := { dst := some 32, op := Op.fieldAddr 37 (Operand.tmp 31) 0, type := 0, pos := "law.go:84", after := #[{ on := 3, ground := Ground.data }], guard := none }) (v := ?_) rfl (by kernel_rfl) (by kernel_rfl) (by kernel_rfl) (by decide) (fun _ _ _ h => h) (Or.inl ⟨by rfl, ?_⟩) (.inl (by assumption)) ?_
        rotate_left
        · intro w hSw; go_simp; try with_reducible rfl
        try simp only [Act.put, List.setIfInBounds_toArray, List.set_cons_zero, List.set_cons_succ]
        refine wpAnyG_takeM (i := 5) (oi := { dst := some 33, op := Op.load 3 (Operand.tmp 32), type := 3, pos := "law.go:84", after := #[{ on := 4, ground := Ground.data }], guard := none }) (v := ?_) (ms := [21, 22, 23, 24, 26, 27]) rfl (by kernel_rfl) (by kernel_rfl) (by kernel_rfl) (by kernel_rfl) (by kernel_rfl) (fun _ _ _ h => h) (Or.inl ⟨by rfl, ?_⟩) (by assumption) ?_
        rotate_left
        · intro w hSw; (try dsimp only at hSw); go_simp; try with_reducible rfl
        try simp only [Act.put, List.setIfInBounds_toArray, List.set_cons_zero, List.set_cons_succ]
        refine wpAnyG_takeU (i := 6) (oi := { dst := some 34, op := Op.move (Operand.tmp 1), type := 28, pos := "law.go:84", after := #[], guard := none }) (v := ?_) rfl (by kernel_rfl) (by kernel_rfl) (by kernel_rfl) (by decide) (fun _ _ _ h => h) (Or.inl ⟨by rfl, ?_⟩) (.inl (by assumption)) ?_
        rotate_left
        · intro w hSw; go_simp; try with_reducible rfl
        try simp only [Act.put, List.setIfInBounds_toArray, List.set_cons_zero, List.set_cons_succ]
        refine wpAnyG_takeU (i := 7) (oi := { dst := some 35, op := Op.move (Operand.tmp 5), type := 3, pos := "law.go:84", after := #[], guard := none }) (v := ?_) rfl (by kernel_rfl) (by kernel_rfl) (by kernel_rfl) (by decide) (fun _ _ _ h => h) (Or.inl ⟨by rfl, ?_⟩) (.inl (by assumption)) ?_
        rotate_left
        · intro w hSw; go_simp; try with_reducible rfl
        try simp only [Act.put, List.setIfInBounds_toArray, List.set_cons_zero, List.set_cons_succ]
        refine wpAnyG_takeU (i := 8) (oi := { dst := some 36, op := Op.indexAddr 28 (Operand.tmp 34) (Operand.tmp 35), type := 0, pos := "law.go:84", after := #[{ on := 6, ground := Ground.data }, { on := 7, ground := Ground.data }], guard := none }) (v := ?_) rfl (by kernel_rfl) (by kernel_rfl) (by kernel_rfl) (by decide) (fun _ _ _ h => h) (Or.inl ⟨by rfl, ?_⟩) (.inl (by assumption)) ?_
        rotate_left
        · intro w hSw; go_simp; try with_reducible rfl
        try simp only [Act.put, List.setIfInBounds_toArray, List.set_cons_zero, List.set_cons_succ]
        refine wpAnyG_takeU (i := 9) (oi := { dst := some 37, op := Op.fieldAddr 37 (Operand.tmp 36) 1, type := 0, pos := "law.go:84", after := #[{ on := 8, ground := Ground.data }], guard := none }) (v := ?_) rfl (by kernel_rfl) (by kernel_rfl) (by kernel_rfl) (by decide) (fun _ _ _ h => h) (Or.inl ⟨by rfl, ?_⟩) (.inl (by assumption)) ?_
        rotate_left
        · intro w hSw; go_simp; try with_reducible rfl
        try simp only [Act.put, List.setIfInBounds_toArray, List.set_cons_zero, List.set_cons_succ]
        refine wpAnyG_takeM (i := 10) (oi := { dst := some 38, op := Op.load 3 (Operand.tmp 37), type := 3, pos := "law.go:84", after := #[{ on := 9, ground := Ground.data }], guard := none }) (v := ?_) (ms := [21, 22, 23, 24, 26, 27]) rfl (by kernel_rfl) (by kernel_rfl) (by kernel_rfl) (by kernel_rfl) (by kernel_rfl) (fun _ _ _ h => h) (Or.inl ⟨by rfl, ?_⟩) (by assumption) ?_
        rotate_left
        · intro w hSw; (try dsimp only at hSw); go_simp; try with_reducible rfl
        try simp only [Act.put, List.setIfInBounds_toArray, List.set_cons_zero, List.set_cons_succ]
        refine wpAnyG_takeU (i := 11) (oi := { dst := some 39, op := Op.move (Operand.tmp 1), type := 28, pos := "law.go:84", after := #[], guard := none }) (v := ?_) rfl (by kernel_rfl) (by kernel_rfl) (by kernel_rfl) (by decide) (fun _ _ _ h => h) (Or.inl ⟨by rfl, ?_⟩) (.inl (by assumption)) ?_
        rotate_left
        · intro w hSw; go_simp; try with_reducible rfl
        try simp only [Act.put, List.setIfInBounds_toArray, List.set_cons_zero, List.set_cons_succ]
        refine wpAnyG_takeU (i := 12) (oi := { dst := some 40, op := Op.move (Operand.tmp 5), type := 3, pos := "law.go:84", after := #[], guard := none }) (v := ?_) rfl (by kernel_rfl) (by kernel_rfl) (by kernel_rfl) (by decide) (fun _ _ _ h => h) (Or.inl ⟨by rfl, ?_⟩) (.inl (by assumption)) ?_
        rotate_left
        · intro w hSw; go_simp; try with_reducible rfl
        try simp only [Act.put, List.setIfInBounds_toArray, List.set_cons_zero, List.set_cons_succ]
        refine wpAnyG_takeU (i := 13) (oi := { dst := some 41, op := Op.indexAddr 28 (Operand.tmp 39) (Operand.tmp 40), type := 0, pos := "law.go:84", after := #[{ on := 11, ground := Ground.data }, { on := 12, ground := Ground.data }], guard := none }) (v := ?_) rfl (by kernel_rfl) (by kernel_rfl) (by kernel_rfl) (by decide) (fun _ _ _ h => h) (Or.inl ⟨by rfl, ?_⟩) (.inl (by assumption)) ?_
        rotate_left
        · intro w hSw; go_simp; try with_reducible rfl
        try simp only [Act.put, List.setIfInBounds_toArray, List.set_cons_zero, List.set_cons_succ]
        refine wpAnyG_takeU (i := 14) (oi := { dst := some 42, op := Op.fieldAddr 37 (Operand.tmp 41) 2, type := 0, pos := "law.go:84", after := #[{ on := 13, ground := Ground.data }], guard := none }) (v := ?_) rfl (by kernel_rfl) (by kernel_rfl) (by kernel_rfl) (by decide) (fun _ _ _ h => h) (Or.inl ⟨by rfl, ?_⟩) (.inl (by assumption)) ?_
        rotate_left
        · intro w hSw; go_simp; try with_reducible rfl
        try simp only [Act.put, List.setIfInBounds_toArray, List.set_cons_zero, List.set_cons_succ]
        refine wpAnyG_takeM (i := 15) (oi := { dst := some 43, op := Op.load 35 (Operand.tmp 42), type := 35, pos := "law.go:84", after := #[{ on := 14, ground := Ground.data }], guard := none }) (v := ?_) (ms := [21, 22, 23, 24, 26, 27]) rfl (by kernel_rfl) (by kernel_rfl) (by kernel_rfl) (by kernel_rfl) (by kernel_rfl) (fun _ _ _ h => h) (Or.inl ⟨by rfl, ?_⟩) (by assumption) ?_
        rotate_left
        · intro w hSw; (try dsimp only at hSw); go_simp; try with_reducible rfl
        try simp only [Act.put, List.setIfInBounds_toArray, List.set_cons_zero, List.set_cons_succ]
        refine wpAnyG_takeU (i := 16) (oi := { dst := some 44, op := Op.move (Operand.tmp 1), type := 28, pos := "law.go:84", after := #[], guard := none }) (v := ?_) rfl (by kernel_rfl) (by kernel_rfl) (by kernel_rfl) (by decide) (fun _ _ _ h => h) (Or.inl ⟨by rfl, ?_⟩) (.inl (by assumption)) ?_
        rotate_left
        · intro w hSw; go_simp; try with_reducible rfl
        try simp only [Act.put, List.setIfInBounds_toArray, List.set_cons_zero, List.set_cons_succ]
        refine wpAnyG_takeU (i := 17) (oi := { dst := some 45, op := Op.move (Operand.tmp 5), type := 3, pos := "law.go:84", after := #[], guard := none }) (v := ?_) rfl (by kernel_rfl) (by kernel_rfl) (by kernel_rfl) (by decide) (fun _ _ _ h => h) (Or.inl ⟨by rfl, ?_⟩) (.inl (by assumption)) ?_
        rotate_left
        · intro w hSw; go_simp; try with_reducible rfl
        try simp only [Act.put, List.setIfInBounds_toArray, List.set_cons_zero, List.set_cons_succ]
        refine wpAnyG_takeU (i := 18) (oi := { dst := some 46, op := Op.indexAddr 28 (Operand.tmp 44) (Operand.tmp 45), type := 0, pos := "law.go:84", after := #[{ on := 16, ground := Ground.data }, { on := 17, ground := Ground.data }], guard := none }) (v := ?_) rfl (by kernel_rfl) (by kernel_rfl) (by kernel_rfl) (by decide) (fun _ _ _ h => h) (Or.inl ⟨by rfl, ?_⟩) (.inl (by assumption)) ?_
        rotate_left
        · intro w hSw; go_simp; try with_reducible rfl
        try simp only [Act.put, List.setIfInBounds_toArray, List.set_cons_zero, List.set_cons_succ]
        refine wpAnyG_takeU (i := 19) (oi := { dst := some 47, op := Op.fieldAddr 37 (Operand.tmp 46) 3, type := 0, pos := "law.go:84", after := #[{ on := 18, ground := Ground.data }], guard := none }) (v := ?_) rfl (by kernel_rfl) (by kernel_rfl) (by kernel_rfl) (by decide) (fun _ _ _ h => h) (Or.inl ⟨by rfl, ?_⟩) (.inl (by assumption)) ?_
        rotate_left
        · intro w hSw; go_simp; try with_reducible rfl
        try simp only [Act.put, List.setIfInBounds_toArray, List.set_cons_zero, List.set_cons_succ]
        refine wpAnyG_takeM (i := 20) (oi := { dst := some 48, op := Op.load 22 (Operand.tmp 47), type := 22, pos := "law.go:84", after := #[{ on := 19, ground := Ground.data }], guard := none }) (v := ?_) (ms := [21, 22, 23, 24, 26, 27]) rfl (by kernel_rfl) (by kernel_rfl) (by kernel_rfl) (by kernel_rfl) (by kernel_rfl) (fun _ _ _ h => h) (Or.inl ⟨by rfl, ?_⟩) (by assumption) ?_
        rotate_left
        · intro w hSw; (try dsimp only at hSw); go_simp; try with_reducible rfl
        try simp only [Act.put, List.setIfInBounds_toArray, List.set_cons_zero, List.set_cons_succ]
        refine cutK (J := ?J7) ?h7 ?k7
        case h7 =>
          intro hJ
          refine wpAnyG_two (i := 21) (oi := { dst := some 49, op := Op.call { callee := Callee.value (Operand.func 14), args := #[Operand.tmp 28, Operand.tmp 33, Operand.tmp 38, Operand.tmp 43, Operand.tmp 48], argTypes := #[27, 3, 3, 35, 22] }, type := 33, pos := "law.go:84", after := #[{ on := 0, ground := Ground.data }, { on := 5, ground := Ground.data }, { on := 10, ground := Ground.data }, { on := 15, ground := Ground.data }, { on := 20, ground := Ground.data }], guard := none }) (j := 25) (oj := { dst := some 7, op := Op.alloc 27, type := 0, pos := "law.go:84", after := #[], guard := none }) (by kernel_rfl) rfl rfl (fun K hK => ?_) (fun K hK => ?_)
          · go_simp
            go_at_call 14
            refine (HCH.out _ HA.out.s).mono ?_
            rintro e wn ⟨⟨q1, n1, z1⟩, ⟨q2, n2, z2⟩, ⟨q3, n3, z3⟩, rfl, hw1, hw2, hw3, hbn⟩
            dsimp only at hw1 hw2 hw3
            have O1 : Hid (wn.ownsRow wd.heap.size 44 6 (.slice q1 n1 z1) t'.cs.length (encL Cpn.cells t'.cs)) := Lib.hid (own_monoT hw1 (Nat.le_refl _))
            have O2 : Hid (wn.ownsRow wd.heap.size 48 2 (.slice q2 n2 z2) t'.ts.length (encL Txx.cells t'.ts)) := Lib.hid (own_monoT hw2 (Nat.le_refl _))
            have O3 : Hid (wn.ownsRow wd.heap.size 46 4 (.slice q3 n3 z3) t'.hs.length (encL Evt.cells t'.hs)) := Lib.hid (own_monoT hw3 (Nat.le_refl _))
            have HBN := Lib.hid hbn
            clear hw1 hw2 hw3 hbn
            refine hK.out _ _ (.inr rfl) ?_
            clear hK K
            try simp only [Act.put, List.setIfInBounds_toArray, List.set_cons_zero, List.set_cons_succ]
            refine wpAnyG_takeU (i := 22) (oi := { dst := some 27, op := Op.move (Operand.tmp 49), type := 33, pos := "law.go:84", after := #[{ on := 21, ground := Ground.data }], guard := none }) (v := ?_) rfl (by kernel_rfl) (by kernel_rfl) (by kernel_rfl) (by decide) (fun _ _ _ h => h) (Or.inl ⟨by rfl, ?_⟩) (.inr rfl) ?_
            rotate_left
            · intro w hSw; go_simp; try with_reducible rfl
            try simp only [Act.put, List.setIfInBounds_toArray, List.set_cons_zero, List.set_cons_succ]
            refine wpAnyG_takeU (i := 23) (oi := { dst := some 50, op := Op.extract (Operand.tmp 27) 0, type := 27, pos := "law.go:84", after := #[{ on := 22, ground := Ground.data }], guard := none }) (v := ?_) rfl (by kernel_rfl) (by kernel_rfl) (by kernel_rfl) (by decide) (fun _ _ _ h => h) (Or.inl ⟨by rfl, ?_⟩) (.inr rfl) ?_
            rotate_left
            · intro w hSw; go_simp; try with_reducible rfl
            try simp only [Act.put, List.setIfInBounds_toArray, List.set_cons_zero, List.set_cons_succ]
            refine wpAnyG_takeU (i := 24) (oi := { dst := some 51, op := Op.extract (Operand.tmp 27) 1, type := 32, pos := "law.go:84", after := #[{ on := 22, ground := Ground.data }, { on := 26, ground := Ground.gcOnly Departure.lateStores }], guard := none }) (v := ?_) rfl (by kernel_rfl) (by kernel_rfl) (by kernel_rfl) (by decide) (fun _ _ _ h => h) (Or.inl ⟨by rfl, ?_⟩) (.inr rfl) ?_
            rotate_left
            · intro w hSw; go_simp; try with_reducible rfl
            try simp only [Act.put, List.setIfInBounds_toArray, List.set_cons_zero, List.set_cons_succ]
            refine wpAnyG_one (i := 25) (o := { dst := some 7, op := Op.alloc 27, type := 0, pos := "law.go:84", after := #[], guard := none }) (by kernel_rfl) rfl (fun K hK => ?_)
            go_simp
            refine hK.out _ _ (.inr rfl) ?_
            clear hK K
            try simp only [Act.put, List.setIfInBounds_toArray, List.set_cons_zero, List.set_cons_succ]
            have P1 := Lib.hid (recs_below O1.out ((Below.refl wn.heap.size wn).alloc (Nat.le_refl _) (.cells #[.int .u64 0, .string ⟨#[]⟩, .int .i64 0, .slice none 0 0, .slice none 0 0, .int .u64 0, .int .u64 0, .int .u64 0, .int .i64 0, .int .i64 0, .slice none 0 0] 27 (0, 0))))
            have P2 := Lib.hid (recs_below O2.out ((Below.refl wn.heap.size wn).alloc (Nat.le_refl _) (.cells #[.int .u64 0, .string ⟨#[]⟩, .int .i64 0, .slice none 0 0, .slice none 0 0, .int .u64 0, .int .u64 0, .int .u64 0, .int .i64 0, .int .i64 0, .slice none 0 0] 27 (0, 0))))
            have P3 := Lib.hid (recs_below O3.out ((Below.refl wn.heap.size wn).alloc (Nat.le_refl _) (.cells #[.int .u64 0, .string ⟨#[]⟩, .int .i64 0, .slice none 0 0, .slice none 0 0, .int .u64 0, .int .u64 0, .int .u64 0, .int .i64 0, .int .i64 0, .slice none 0 0] 27 (0, 0))))
            clear O1 O2 O3
            have HBY : Hid (Below wd.heap.size wd (wn.alloc (.cells #[.int .u64 0, .string ⟨#[]⟩, .int .i64 0, .slice none 0 0, .slice none 0 0, .int .u64 0, .int .u64 0, .int .u64 0, .int .i64 0, .int .i64 0, .slice none 0 0] 27 (0, 0)))) := Lib.hid (HBN.out.alloc HBN.out.size _)
            have HZ : Hid ((wn.alloc (.cells #[.int .u64 0, .string ⟨#[]⟩, .int .i64 0, .slice none 0 0, .slice none 0 0, .int .u64 0, .int .u64 0, .int .u64 0, .int .i64 0, .int .i64 0, .slice none 0 0] 27 (0, 0))).heap[wn.heap.size]? = some (.cells #[.int .u64 0, .string ⟨#[]⟩, .int .i64 0, .slice none 0 0, .slice none 0 0, .int .u64 0, .int .u64 0, .int .u64 0, .int .i64 0, .int .i64 0, .slice none 0 0] 27 (0, 0))) := Lib.hid (new_rowW _ _ _ rfl)
            have HG : Hid (wd.heap.size ≤ wn.heap.size) := Lib.hid HBN.out.size
            clear HBN
            generalize wn.alloc (.cells #[.int .u64 0, .string ⟨#[]⟩, .int .i64 0, .slice none 0 0, .slice none 0 0, .int .u64 0, .int .u64 0, .int .u64 0, .int .i64 0, .int .i64 0, .slice none 0 0] 27 (0, 0)) = Y at P1 P2 P3 HBY HZ ⊢
            generalize wn.heap.size = gy at HZ HG ⊢
            revert P1 P2 P3 HBY HZ HG
            revert Y gy q1 n1 z1 q2 n2 z2 q3 n3 z3
            exact hJ
          · go_simp
            have hHeldB := HCC.out (wd.alloc (.cells #[.int .u64 0, .string ⟨#[]⟩, .int .i64 0, .slice none 0 0, .slice none 0 0, .int .u64 0, .int .u64 0, .int .u64 0, .int .i64 0, .int .i64 0, .slice none 0 0] 27 (0, 0))) ((Below.refl _ _).alloc (Nat.le_refl _) _)
            refine hK.out _ _ (.inl hHeldB) ?_
            clear hK K
            try simp only [Act.put, List.setIfInBounds_toArray, List.set_cons_zero, List.set_cons_succ]
            refine wpAnyG_one (i := 21) (o := { dst := some 49, op := Op.call { callee := Callee.value (Operand.func 14), args := #[Operand.tmp 28, Operand.tmp 33, Operand.tmp 38, Operand.tmp 43, Operand.tmp 48], argTypes := #[27, 3, 3, 35, 22] }, type := 33, pos := "law.go:84", after := #[{ on := 0, ground := Ground.data }, { on := 5, ground := Ground.data }, { on := 10, ground := Ground.data }, { on := 15, ground := Ground.data }, { on := 20, ground := Ground.data }], guard := none }) (by kernel_rfl) rfl (fun K hK => ?_)
            go_simp
            go_at_call 14
            refine (HCH.out _ (HA.out.s.below ((Below.refl _ _).alloc (Nat.le_refl _) _))).mono ?_
            rintro e wn ⟨⟨q1, n1, z1⟩, ⟨q2, n2, z2⟩, ⟨q3, n3, z3⟩, rfl, hw1, hw2, hw3, hbn⟩
            dsimp only at hw1 hw2 hw3
            have O1 : Hid (wn.ownsRow wd.heap.size 44 6 (.slice q1 n1 z1) t'.cs.length (encL Cpn.cells t'.cs)) := Lib.hid (own_monoT hw1 (by simp))
            have O2 : Hid (wn.ownsRow wd.heap.size 48 2 (.slice q2 n2 z2) t'.ts.length (encL Txx.cells t'.ts)) := Lib.hid (own_monoT hw2 (by simp))
            have O3 : Hid (wn.ownsRow wd.heap.size 46 4 (.slice q3 n3 z3) t'.hs.length (encL Evt.cells t'.hs)) := Lib.hid (own_monoT hw3 (by simp))
            have HBN := Lib.hid hbn
            clear hw1 hw2 hw3 hbn
            refine hK.out _ _ (.inr rfl) ?_
            clear hK K
            try simp only [Act.put, List.setIfInBounds_toArray, List.set_cons_zero, List.set_cons_succ]
            refine wpAnyG_takeU (i := 22) (oi := { dst := some 27, op := Op.move (Operand.tmp 49), type := 33, pos := "law.go:84", after := #[{ on := 21, ground := Ground.data }], guard := none }) (v := ?_) rfl (by kernel_rfl) (by kernel_rfl) (by kernel_rfl) (by decide) (fun _ _ _ h => h) (Or.inl ⟨by rfl, ?_⟩) (.inr rfl) ?_
            rotate_left
            · intro w hSw; go_simp; try with_reducible rfl
            try simp only [Act.put, List.setIfInBounds_toArray, List.set_cons_zero, List.set_cons_succ]
            refine wpAnyG_takeU (i := 23) (oi := { dst := some 50, op := Op.extract (Operand.tmp 27) 0, type := 27, pos := "law.go:84", after := #[{ on := 22, ground := Ground.data }], guard := none }) (v := ?_) rfl (by kernel_rfl) (by kernel_rfl) (by kernel_rfl) (by decide) (fun _ _ _ h => h) (Or.inl ⟨by rfl, ?_⟩) (.inr rfl) ?_
            rotate_left
            · intro w hSw; go_simp; try with_reducible rfl
            try simp only [Act.put, List.setIfInBounds_toArray, List.set_cons_zero, List.set_cons_succ]
            refine wpAnyG_takeU (i := 24) (oi := { dst := some 51, op := Op.extract (Operand.tmp 27) 1, type := 32, pos := "law.go:84", after := #[{ on := 22, ground := Ground.data }, { on := 26, ground := Ground.gcOnly Departure.lateStores }], guard := none }) (v := ?_) rfl (by kernel_rfl) (by kernel_rfl) (by kernel_rfl) (by decide) (fun _ _ _ h => h) (Or.inl ⟨by rfl, ?_⟩) (.inr rfl) ?_
            rotate_left
            · intro w hSw; go_simp; try with_reducible rfl
            try simp only [Act.put, List.setIfInBounds_toArray, List.set_cons_zero, List.set_cons_succ]
            have P1 := Lib.hid O1.out
            have P2 := Lib.hid O2.out
            have P3 := Lib.hid O3.out
            clear O1 O2 O3
            have HBY : Hid (Below wd.heap.size wd wn) := Lib.hid (((Below.refl wd.heap.size wd).alloc (Nat.le_refl _) (.cells #[.int .u64 0, .string ⟨#[]⟩, .int .i64 0, .slice none 0 0, .slice none 0 0, .int .u64 0, .int .u64 0, .int .u64 0, .int .i64 0, .int .i64 0, .slice none 0 0] 27 (0, 0))).trans (HBN.out.mono (by simp)))
            have HZ : Hid (wn.heap[wd.heap.size]? = some (.cells #[.int .u64 0, .string ⟨#[]⟩, .int .i64 0, .slice none 0 0, .slice none 0 0, .int .u64 0, .int .u64 0, .int .u64 0, .int .i64 0, .int .i64 0, .slice none 0 0] 27 (0, 0))) := Lib.hid ((HBN.out.block _ (by simp)).trans (new_rowW _ _ _ rfl))
            clear HBN hHeldB
            generalize wn = Y at P1 P2 P3 HBY HZ ⊢
            obtain ⟨gy, hgy⟩ : ∃ gy, wd.heap.size = gy := ⟨_, rfl⟩
            rw [hgy] at HZ ⊢; have HG : Hid (wd.heap.size ≤ gy) := Lib.hid (Nat.le_of_eq hgy); clear hgy
            revert P1 P2 P3 HBY HZ HG
            revert Y gy q1 n1 z1 q2 n2 z2 q3 n3 z3
            exact hJ
        case k7 =>
          intro q1 n1 z1 q2 n2 z2 q3 n3 z3 Y gy P1 P2 P3 HBY HZ HG
          have th := there_rowT (n := 11) HZ.out rfl
          have h1n : ([.int .u64 t'.num, .string t'.loc, .int .i64 t'.iss, .slice q1 n1 z1, .slice q2 n2 z2, .int .u64 t'.prev, .int .u64 t'.org, .int .u64 t'.fst, .int .i64 t'.vou, .int .i64 t'.posts, .slice q3 n3 z3] : List Value).length = 11 := rfl
          have h1c : ([.int .u64 t'.num, .string t'.loc, .int .i64 t'.iss, .slice q1 n1 z1, .slice q2 n2 z2, .int .u64 t'.prev, .int .u64 t'.org, .int .u64 t'.fst, .int .i64 t'.vou, .int .i64 t'.posts, .slice q3 n3 z3] : List Value).all (·.oneCell') = true := rfl
          refine wpAnyG_one (i := 26) (o := { dst := none, op := Op.store 27 (Operand.tmp 7) (Operand.tmp 50), type := 0, pos := "law.go:84", after := #[{ on := 25, ground := Ground.data }, { on := 23, ground := Ground.data }, { on := 21, ground := Ground.chain }, { on := 0, ground := Ground.phase }, { on := 1, ground := Ground.phase }, { on := 2, ground := Ground.phase }, { on := 3, ground := Ground.phase }, { on := 4, ground := Ground.phase }, { on := 5, ground := Ground.phase }, { on := 6, ground := Ground.phase }, { on := 7, ground := Ground.phase }, { on := 8, ground := Ground.phase }, { on := 9, ground := Ground.phase }, { on := 10, ground := Ground.phase }, { on := 11, ground := Ground.phase }, { on := 12, ground := Ground.phase }, { on := 13, ground := Ground.phase }, { on := 14, ground := Ground.phase }, { on := 15, ground := Ground.phase }, { on := 16, ground := Ground.phase }, { on := 17, ground := Ground.phase }, { on := 18, ground := Ground.phase }, { on := 19, ground := Ground.phase }, { on := 20, ground := Ground.phase }, { on := 21, ground := Ground.phase }, { on := 22, ground := Ground.phase }, { on := 23, ground := Ground.phase }, { on := 24, ground := Ground.textOnly Departure.lateStores }, { on := 25, ground := Ground.phase }], guard := none }) (by kernel_rfl) rfl (fun K hK => ?_)
          go_simp
          refine hK.out _ _ (.inr rfl) ?_
          clear hK K
          try simp only [Act.put, List.setIfInBounds_toArray, List.set_cons_zero, List.set_cons_succ]
          refine wpAnyG_takeU (i := 27) (oi := { dst := some 8, op := Op.assign (Operand.tmp 51), type := 32, pos := "law.go:84", after := #[{ on := 24, ground := Ground.data }, { on := 26, ground := Ground.chain }, { on := 0, ground := Ground.phase }, { on := 1, ground := Ground.phase }, { on := 2, ground := Ground.phase }, { on := 3, ground := Ground.phase }, { on := 4, ground := Ground.phase }, { on := 5, ground := Ground.phase }, { on := 6, ground := Ground.phase }, { on := 7, ground := Ground.phase }, { on := 8, ground := Ground.phase }, { on := 9, ground := Ground.phase }, { on := 10, ground := Ground.phase }, { on := 11, ground := Ground.phase }, { on := 12, ground := Ground.phase }, { on := 13, ground := Ground.phase }, { on := 14, ground := Ground.phase }, { on := 15, ground := Ground.phase }, { on := 16, ground := Ground.phase }, { on := 17, ground := Ground.phase }, { on := 18, ground := Ground.phase }, { on := 19, ground := Ground.phase }, { on := 20, ground := Ground.phase }, { on := 21, ground := Ground.phase }, { on := 22, ground := Ground.phase }, { on := 23, ground := Ground.phase }, { on := 24, ground := Ground.phase }, { on := 25, ground := Ground.phase }, { on := 26, ground := Ground.phase }], guard := none }) (v := ?_) rfl (by kernel_rfl) (by kernel_rfl) (by kernel_rfl) (by decide) (fun _ _ _ h => h) (Or.inl ⟨by rfl, ?_⟩) (.inr rfl) ?_
          rotate_left
          · intro w hSw; go_simp; try with_reducible rfl
          try simp only [Act.put, List.setIfInBounds_toArray, List.set_cons_zero, List.set_cons_succ]
          refine wpAnyG_done (by kernel_rfl) ?_ _
          have HBW := Lib.hid (below_put HBY.out HG.out [.int .u64 t'.num, .string t'.loc, .int .i64 t'.iss, .slice q1 n1 z1, .slice q2 n2 z2, .int .u64 t'.prev, .int .u64 t'.org, .int .u64 t'.fst, .int .i64 t'.vou, .int .i64 t'.posts, .slice q3 n3 z3])
          have Hg7r := Lib.hid (setCells_rowT (cs := [.int .u64 t'.num, .string t'.loc, .int .i64 t'.iss, .slice q1 n1 z1, .slice q2 n2 z2, .int .u64 t'.prev, .int .u64 t'.org, .int .u64 t'.fst, .int .i64 t'.vou, .int .i64 t'.posts, .slice q3 n3 z3]) HZ.out rfl)
          have Hg7t := Lib.hid ((TS.of_own (t := t') (c := ⟨q1, n1, z1⟩) (x := ⟨q2, n2, z2⟩) (h := ⟨q3, n3, z3⟩) HWF.out P1.out P2.out P3.out).only (Off.of_row P1.out P2.out P3.out HZ.out) ((Only.refl gy Y).setCells 0 [.int .u64 t'.num, .string t'.loc, .int .i64 t'.iss, .slice q1 n1 z1, .slice q2 n2 z2, .int .u64 t'.prev, .int .u64 t'.org, .int .u64 t'.fst, .int .i64 t'.vou, .int .i64 t'.posts, .slice q3 n3 z3]))
          have Hg7o : Hid (Off w.heap.size t' ⟨q1, n1, z1⟩ ⟨q2, n2, z2⟩ ⟨q3, n3, z3⟩) := Lib.hid (Off.of_own P1.out P2.out P3.out (block_lt HA.out.r))
          have HA := Lib.hid (HA.out.below HBW.out)
          have HRg6 := Lib.hid ((HBW.out.block _ (block_lt HRg6.out)).trans HRg6.out)
          have HT5 := Lib.hid (HT5.out.below HBW.out)
          clear HBW HBY HZ HG P1 P2 P3 HCC hHeld th h1n h1c
          generalize Y.setCells gy 0 [.int .u64 t'.num, .string t'.loc, .int .i64 t'.iss, .slice q1 n1 z1, .slice q2 n2 z2, .int .u64 t'.prev, .int .u64 t'.org, .int .u64 t'.fst, .int .i64 t'.vou, .int .i64 t'.posts, .slice q3 n3 z3] = w7 at *
          try clear wd
          generalize gy = g7 at *
          go_upto_region 8 with fail
          have HA := Lib.hid (HA.out.below (Below.refl _ _).drew)
          have HRg6 := Lib.hid (row_drewT HRg6.out)
          have HT5 := Lib.hid (HT5.out.below (Below.refl _ _).drew)
          have Hg7r := Lib.hid (row_drewT Hg7r.out)
          have Hg7t := Lib.hid (Hg7t.out.below (Below.refl _ _).drew)
          refine wp_region_G (C := fun W => loL 11 W w.heap.size 0 = [.int .u64 t.num, .string t.loc, .int .i64 t.iss, .slice c.p c.n c.c, .slice x.p x.n x.c, .int .u64 t.prev, .int .u64 t.org, .int .u64 t.fst, .int .i64 t.vou, .int .i64 t.posts, .slice h.p h.n h.c] ∧ okL 11 W w.heap.size 0 ∧ W.cell? ⟨sb, so + k * 4, none⟩ = some (.int .i64 s.co) ∧ W.cell? ⟨sb, so + k * 4 + 1, none⟩ = some (.int .i64 s.on) ∧ W.cell? ⟨sb, so + k * 4 + 2, none⟩ = some (.int .i64 s.tq) ∧ W.cell? ⟨sb, so + k * 4 + 3, none⟩ = some (.int .u64 s.wi)) (s0 := 21) (by kernel_rfl) ?_
          generalize w7.drew = wd at *
          have HCC : Hid (∀ W, Below wd.heap.size wd W → (loL 11 W w.heap.size 0 = [.int .u64 t.num, .string t.loc, .int .i64 t.iss, .slice c.p c.n c.c, .slice x.p x.n x.c, .int .u64 t.prev, .int .u64 t.org, .int .u64 t.fst, .int .i64 t.vou, .int .i64 t.posts, .slice h.p h.n h.c] ∧ okL 11 W w.heap.size 0 ∧ W.cell? ⟨sb, so + k * 4, none⟩ = some (.int .i64 s.co) ∧ W.cell? ⟨sb, so + k * 4 + 1, none⟩ = some (.int .i64 s.on) ∧ W.cell? ⟨sb, so + k * 4 + 2, none⟩ = some (.int .i64 s.tq) ∧ W.cell? ⟨sb, so + k * 4 + 3, none⟩ = some (.int .u64 s.wi))) := Lib.hid (fun W hW => by
            obtain ⟨f1, f2⟩ := row_loT 11 (HA.out.below hW).r rfl rfl
            obtain ⟨sb2, so2, hp2, hbl2, hr2⟩ := (HST.out.below (HA.out.below hW).b).at HSS.out
            injection hp2 with hp2; injection hp2 with hp3 hp4; subst hp3; subst hp4
            exact ⟨f1, f2, hr2 0 _ rfl, hr2 1 _ rfl, hr2 2 _ rfl, hr2 3 _ rfl⟩)
          have hHeld := HCC.out wd (Below.refl _ _)
          refine wpAnyG_takeM (i := 0) (oi := { dst := some 53, op := Op.load 27 (Operand.tmp 2), type := 27, pos := "law.go:85", after := #[], guard := none }) (v := ?_) (ms := [21, 22, 23, 24, 26, 27]) rfl (by kernel_rfl) (by kernel_rfl) (by kernel_rfl) (by kernel_rfl) (by kernel_rfl) (fun _ _ _ h => h) (Or.inl ⟨by rfl, ?_⟩) (by assumption) ?_
          rotate_left
          · intro w hSw; (try dsimp only at hSw); go_simp; try with_reducible rfl
          try simp only [Act.put, List.setIfInBounds_toArray, List.set_cons_zero, List.set_cons_succ]
          refine wpAnyG_takeU (i := 1) (oi := { dst := some 54, op := Op.move (Operand.tmp 1), type := 28, pos := "law.go:85", after := #[], guard := none }) (v := ?_) rfl (by kernel_rfl) (by kernel_rfl) (by kernel_rfl) (by decide) (fun _ _ _ h => h) (Or.inl ⟨by rfl, ?_⟩) (.inl (by assumption)) ?_
          rotate_left
          · intro w hSw; go_simp; try with_reducible rfl
          try simp only [Act.put, List.setIfInBounds_toArray, List.set_cons_zero, List.set_cons_succ]
          refine wpAnyG_takeU (i := 2) (oi := { dst := some 55, op := Op.move (Operand.tmp 5), type := 3, pos := "law.go:85", after := #[], guard := none }) (v := ?_) rfl (by kernel_rfl) (by kernel_rfl) (by kernel_rfl) (by decide) (fun _ _ _ h => h) (Or.inl ⟨by rfl, ?_⟩) (.inl (by assumption)) ?_
          rotate_left
          · intro w hSw; go_simp; try with_reducible rfl
          try simp only [Act.put, List.setIfInBounds_toArray, List.set_cons_zero, List.set_cons_succ]
          refine wpAnyG_takeU (i := 3) (oi := { dst := some 56, op := Op.indexAddr 28 (Operand.tmp 54) (Operand.tmp 55), type := 0, pos := "law.go:85", after := #[{ on := 1, ground := Ground.data }, { on := 2, ground := Ground.data }], guard := none }) (v := ?_) rfl (by kernel_rfl) (by kernel_rfl) (by kernel_rfl) (by decide) (fun _ _ _ h => h) (Or.inl ⟨by rfl, ?_⟩) (.inl (by assumption)) ?_
          rotate_left
          · intro w hSw; go_simp; try with_reducible rfl
          try simp only [Act.put, List.setIfInBounds_toArray, List.set_cons_zero, List.set_cons_succ]
          refine wpAnyG_takeU (i := 4) (oi := { dst := some 57, op := Op.fieldAddr 37 (Operand.tmp 56) 0, type := 0, pos := "law.go:85", after := #[{ on := 3, ground := Ground.data }], guard := none }) (v := ?_) rfl (by kernel_rfl) (by kernel_rfl) (by kernel_rfl) (by decide) (fun _ _ _ h => h) (Or.inl ⟨by rfl, ?_⟩) (.inl (by assumption)) ?_
          rotate_left
          · intro w hSw; go_simp; try with_reducible rfl
          try simp only [Act.put, List.setIfInBounds_toArray, List.set_cons_zero, List.set_cons_succ]
          refine wpAnyG_takeM (i := 5) (oi := { dst := some 58, op := Op.load 3 (Operand.tmp 57), type := 3, pos := "law.go:85", after := #[{ on := 4, ground := Ground.data }], guard := none }) (v := ?_) (ms := [21, 22, 23, 24, 26, 27]) rfl (by kernel_rfl) (by kernel_rfl) (by kernel_rfl) (by kernel_rfl) (by kernel_rfl) (fun _ _ _ h => h) (Or.inl ⟨by rfl, ?_⟩) (by assumption) ?_
          rotate_left
          · intro w hSw; (try dsimp only at hSw); go_simp; try with_reducible rfl
          try simp only [Act.put, List.setIfInBounds_toArray, List.set_cons_zero, List.set_cons_succ]
          refine wpAnyG_takeU (i := 6) (oi := { dst := some 59, op := Op.move (Operand.tmp 1), type := 28, pos := "law.go:85", after := #[], guard := none }) (v := ?_) rfl (by kernel_rfl) (by kernel_rfl) (by kernel_rfl) (by decide) (fun _ _ _ h => h) (Or.inl ⟨by rfl, ?_⟩) (.inl (by assumption)) ?_
          rotate_left
          · intro w hSw; go_simp; try with_reducible rfl
          try simp only [Act.put, List.setIfInBounds_toArray, List.set_cons_zero, List.set_cons_succ]
          refine wpAnyG_takeU (i := 7) (oi := { dst := some 60, op := Op.move (Operand.tmp 5), type := 3, pos := "law.go:85", after := #[], guard := none }) (v := ?_) rfl (by kernel_rfl) (by kernel_rfl) (by kernel_rfl) (by decide) (fun _ _ _ h => h) (Or.inl ⟨by rfl, ?_⟩) (.inl (by assumption)) ?_
          rotate_left
          · intro w hSw; go_simp; try with_reducible rfl
          try simp only [Act.put, List.setIfInBounds_toArray, List.set_cons_zero, List.set_cons_succ]
          refine wpAnyG_takeU (i := 8) (oi := { dst := some 61, op := Op.indexAddr 28 (Operand.tmp 59) (Operand.tmp 60), type := 0, pos := "law.go:85", after := #[{ on := 6, ground := Ground.data }, { on := 7, ground := Ground.data }], guard := none }) (v := ?_) rfl (by kernel_rfl) (by kernel_rfl) (by kernel_rfl) (by decide) (fun _ _ _ h => h) (Or.inl ⟨by rfl, ?_⟩) (.inl (by assumption)) ?_
          rotate_left
          · intro w hSw; go_simp; try with_reducible rfl
          try simp only [Act.put, List.setIfInBounds_toArray, List.set_cons_zero, List.set_cons_succ]
          refine wpAnyG_takeU (i := 9) (oi := { dst := some 62, op := Op.fieldAddr 37 (Operand.tmp 61) 1, type := 0, pos := "law.go:85", after := #[{ on := 8, ground := Ground.data }], guard := none }) (v := ?_) rfl (by kernel_rfl) (by kernel_rfl) (by kernel_rfl) (by decide) (fun _ _ _ h => h) (Or.inl ⟨by rfl, ?_⟩) (.inl (by assumption)) ?_
          rotate_left
          · intro w hSw; go_simp; try with_reducible rfl
          try simp only [Act.put, List.setIfInBounds_toArray, List.set_cons_zero, List.set_cons_succ]
          refine wpAnyG_takeM (i := 10) (oi := { dst := some 63, op := Op.load 3 (Operand.tmp 62), type := 3, pos := "law.go:85", after := #[{ on := 9, ground := Ground.data }], guard := none }) (v := ?_) (ms := [21, 22, 23, 24, 26, 27]) rfl (by kernel_rfl) (by kernel_rfl) (by kernel_rfl) (by kernel_rfl) (by kernel_rfl) (fun _ _ _ h => h) (Or.inl ⟨by rfl, ?_⟩) (by assumption) ?_
          rotate_left
          · intro w hSw; (try dsimp only at hSw); go_simp; try with_reducible rfl
          try simp only [Act.put, List.setIfInBounds_toArray, List.set_cons_zero, List.set_cons_succ]
          refine wpAnyG_takeU (i := 11) (oi := { dst := some 64, op := Op.move (Operand.tmp 1), type := 28, pos := "law.go:85", after := #[], guard := none }) (v := ?_) rfl (by kernel_rfl) (by kernel_rfl) (by kernel_rfl) (by decide) (fun _ _ _ h => h) (Or.inl ⟨by rfl, ?_⟩) (.inl (by assumption)) ?_
          rotate_left
          · intro w hSw; go_simp; try with_reducible rfl
          try simp only [Act.put, List.setIfInBounds_toArray, List.set_cons_zero, List.set_cons_succ]
          refine wpAnyG_takeU (i := 12) (oi := { dst := some 65, op := Op.move (Operand.tmp 5), type := 3, pos := "law.go:85", after := #[], guard := none }) (v := ?_) rfl (by kernel_rfl) (by kernel_rfl) (by kernel_rfl) (by decide) (fun _ _ _ h => h) (Or.inl ⟨by rfl, ?_⟩) (.inl (by assumption)) ?_
          rotate_left
          · intro w hSw; go_simp; try with_reducible rfl
          try simp only [Act.put, List.setIfInBounds_toArray, List.set_cons_zero, List.set_cons_succ]
          refine wpAnyG_takeU (i := 13) (oi := { dst := some 66, op := Op.indexAddr 28 (Operand.tmp 64) (Operand.tmp 65), type := 0, pos := "law.go:85", after := #[{ on := 11, ground := Ground.data }, { on := 12, ground := Ground.data }], guard := none }) (v := ?_) rfl (by kernel_rfl) (by kernel_rfl) (by kernel_rfl) (by decide) (fun _ _ _ h => h) (Or.inl ⟨by rfl, ?_⟩) (.inl (by assumption)) ?_
          rotate_left
          · intro w hSw; go_simp; try with_reducible rfl
          try simp only [Act.put, List.setIfInBounds_toArray, List.set_cons_zero, List.set_cons_succ]
          refine wpAnyG_takeU (i := 14) (oi := { dst := some 67, op := Op.fieldAddr 37 (Operand.tmp 66) 2, type := 0, pos := "law.go:85", after := #[{ on := 13, ground := Ground.data }], guard := none }) (v := ?_) rfl (by kernel_rfl) (by kernel_rfl) (by kernel_rfl) (by decide) (fun _ _ _ h => h) (Or.inl ⟨by rfl, ?_⟩) (.inl (by assumption)) ?_
          rotate_left
          · intro w hSw; go_simp; try with_reducible rfl
          try simp only [Act.put, List.setIfInBounds_toArray, List.set_cons_zero, List.set_cons_succ]
          refine wpAnyG_takeM (i := 15) (oi := { dst := some 68, op := Op.load 35 (Operand.tmp 67), type := 35, pos := "law.go:85", after := #[{ on := 14, ground := Ground.data }], guard := none }) (v := ?_) (ms := [21, 22, 23, 24, 26, 27]) rfl (by kernel_rfl) (by kernel_rfl) (by kernel_rfl) (by kernel_rfl) (by kernel_rfl) (fun _ _ _ h => h) (Or.inl ⟨by rfl, ?_⟩) (by assumption) ?_
          rotate_left
          · intro w hSw; (try dsimp only at hSw); go_simp; try with_reducible rfl
          try simp only [Act.put, List.setIfInBounds_toArray, List.set_cons_zero, List.set_cons_succ]
          refine wpAnyG_takeU (i := 16) (oi := { dst := some 69, op := Op.move (Operand.tmp 1), type := 28, pos := "law.go:85", after := #[], guard := none }) (v := ?_) rfl (by kernel_rfl) (by kernel_rfl) (by kernel_rfl) (by decide) (fun _ _ _ h => h) (Or.inl ⟨by rfl, ?_⟩) (.inl (by assumption)) ?_
          rotate_left
          · intro w hSw; go_simp; try with_reducible rfl
          try simp only [Act.put, List.setIfInBounds_toArray, List.set_cons_zero, List.set_cons_succ]
          refine wpAnyG_takeU (i := 17) (oi := { dst := some 70, op := Op.move (Operand.tmp 5), type := 3, pos := "law.go:85", after := #[], guard := none }) (v := ?_) rfl (by kernel_rfl) (by kernel_rfl) (by kernel_rfl) (by decide) (fun _ _ _ h => h) (Or.inl ⟨by rfl, ?_⟩) (.inl (by assumption)) ?_
          rotate_left
          · intro w hSw; go_simp; try with_reducible rfl
          try simp only [Act.put, List.setIfInBounds_toArray, List.set_cons_zero, List.set_cons_succ]
          refine wpAnyG_takeU (i := 18) (oi := { dst := some 71, op := Op.indexAddr 28 (Operand.tmp 69) (Operand.tmp 70), type := 0, pos := "law.go:85", after := #[{ on := 16, ground := Ground.data }, { on := 17, ground := Ground.data }], guard := none }) (v := ?_) rfl (by kernel_rfl) (by kernel_rfl) (by kernel_rfl) (by decide) (fun _ _ _ h => h) (Or.inl ⟨by rfl, ?_⟩) (.inl (by assumption)) ?_
          rotate_left
          · intro w hSw; go_simp; try with_reducible rfl
          try simp only [Act.put, List.setIfInBounds_toArray, List.set_cons_zero, List.set_cons_succ]
          refine wpAnyG_takeU (i := 19) (oi := { dst := some 72, op := Op.fieldAddr 37 (Operand.tmp 71) 3, type := 0, pos := "law.go:85", after := #[{ on := 18, ground := Ground.data }], guard := none }) (v := ?_) rfl (by kernel_rfl) (by kernel_rfl) (by kernel_rfl) (by decide) (fun _ _ _ h => h) (Or.inl ⟨by rfl, ?_⟩) (.inl (by assumption)) ?_
          rotate_left
          · intro w hSw; go_simp; try with_reducible rfl
          try simp only [Act.put, List.setIfInBounds_toArray, List.set_cons_zero, List.set_cons_succ]
          refine wpAnyG_takeM (i := 20) (oi := { dst := some 73, op := Op.load 22 (Operand.tmp 72), type := 22, pos := "law.go:85", after := #[{ on := 19, ground := Ground.data }], guard := none }) (v := ?_) (ms := [21, 22, 23, 24, 26, 27]) rfl (by kernel_rfl) (by kernel_rfl) (by kernel_rfl) (by kernel_rfl) (by kernel_rfl) (fun _ _ _ h => h) (Or.inl ⟨by rfl, ?_⟩) (by assumption) ?_
          rotate_left
          · intro w hSw; (try dsimp only at hSw); go_simp; try with_reducible rfl
          try simp only [Act.put, List.setIfInBounds_toArray, List.set_cons_zero, List.set_cons_succ]
          refine cutK (J := ?J8) ?h8 ?k8
          case h8 =>
            intro hJ
            refine wpAnyG_two (i := 21) (oi := { dst := some 74, op := Op.call { callee := Callee.value (Operand.func 15), args := #[Operand.tmp 53, Operand.tmp 58, Operand.tmp 63, Operand.tmp 68, Operand.tmp 73], argTypes := #[27, 3, 3, 35, 22] }, type := 38, pos := "law.go:85", after := #[{ on := 0, ground := Ground.data }, { on := 5, ground := Ground.data }, { on := 10, ground := Ground.data }, { on := 15, ground := Ground.data }, { on := 20, ground := Ground.data }], guard := none }) (j := 25) (oj := { dst := some 9, op := Op.alloc 27, type := 0, pos := "law.go:85", after := #[], guard := none }) (by kernel_rfl) rfl rfl (fun K hK => ?_) (fun K hK => ?_)
            · go_simp
              go_at_call 15
              refine (HRC.out _ HA.out.s).mono ?_
              rintro e wn ⟨⟨r1, o1, y1⟩, ⟨r2, o2, y2⟩, ⟨r3, o3, y3⟩, rfl, hw1, hw2, hw3, hbn⟩
              dsimp only at hw1 hw2 hw3
              have O1 : Hid (wn.ownsRow wd.heap.size 44 6 (.slice r1 o1 y1) t'.cs.length (encL Cpn.cells t'.cs)) := Lib.hid (own_monoT hw1 (Nat.le_refl _))
              have O2 : Hid (wn.ownsRow wd.heap.size 48 2 (.slice r2 o2 y2) t'.ts.length (encL Txx.cells t'.ts)) := Lib.hid (own_monoT hw2 (Nat.le_refl _))
              have O3 : Hid (wn.ownsRow wd.heap.size 46 4 (.slice r3 o3 y3) t'.hs.length (encL Evt.cells t'.hs)) := Lib.hid (own_monoT hw3 (Nat.le_refl _))
              have HBN := Lib.hid hbn
              clear hw1 hw2 hw3 hbn
              refine hK.out _ _ (.inr rfl) ?_
              clear hK K
              try simp only [Act.put, List.setIfInBounds_toArray, List.set_cons_zero, List.set_cons_succ]
              refine wpAnyG_takeU (i := 22) (oi := { dst := some 52, op := Op.move (Operand.tmp 74), type := 38, pos := "law.go:85", after := #[{ on := 21, ground := Ground.data }], guard := none }) (v := ?_) rfl (by kernel_rfl) (by kernel_rfl) (by kernel_rfl) (by decide) (fun _ _ _ h => h) (Or.inl ⟨by rfl, ?_⟩) (.inr rfl) ?_
              rotate_left
              · intro w hSw; go_simp; try with_reducible rfl
              try simp only [Act.put, List.setIfInBounds_toArray, List.set_cons_zero, List.set_cons_succ]
              refine wpAnyG_takeU (i := 23) (oi := { dst := some 75, op := Op.extract (Operand.tmp 52) 0, type := 27, pos := "law.go:85", after := #[{ on := 22, ground := Ground.data }], guard := none }) (v := ?_) rfl (by kernel_rfl) (by kernel_rfl) (by kernel_rfl) (by decide) (fun _ _ _ h => h) (Or.inl ⟨by rfl, ?_⟩) (.inr rfl) ?_
              rotate_left
              · intro w hSw; go_simp; try with_reducible rfl
              try simp only [Act.put, List.setIfInBounds_toArray, List.set_cons_zero, List.set_cons_succ]
              refine wpAnyG_takeU (i := 24) (oi := { dst := some 76, op := Op.extract (Operand.tmp 52) 1, type := 3, pos := "law.go:85", after := #[{ on := 22, ground := Ground.data }, { on := 26, ground := Ground.gcOnly Departure.lateStores }], guard := none }) (v := ?_) rfl (by kernel_rfl) (by kernel_rfl) (by kernel_rfl) (by decide) (fun _ _ _ h => h) (Or.inl ⟨by rfl, ?_⟩) (.inr rfl) ?_
              rotate_left
              · intro w hSw; go_simp; try with_reducible rfl
              try simp only [Act.put, List.setIfInBounds_toArray, List.set_cons_zero, List.set_cons_succ]
              refine wpAnyG_one (i := 25) (o := { dst := some 9, op := Op.alloc 27, type := 0, pos := "law.go:85", after := #[], guard := none }) (by kernel_rfl) rfl (fun K hK => ?_)
              go_simp
              refine hK.out _ _ (.inr rfl) ?_
              clear hK K
              try simp only [Act.put, List.setIfInBounds_toArray, List.set_cons_zero, List.set_cons_succ]
              have P1 := Lib.hid (recs_below O1.out ((Below.refl wn.heap.size wn).alloc (Nat.le_refl _) (.cells #[.int .u64 0, .string ⟨#[]⟩, .int .i64 0, .slice none 0 0, .slice none 0 0, .int .u64 0, .int .u64 0, .int .u64 0, .int .i64 0, .int .i64 0, .slice none 0 0] 27 (0, 0))))
              have P2 := Lib.hid (recs_below O2.out ((Below.refl wn.heap.size wn).alloc (Nat.le_refl _) (.cells #[.int .u64 0, .string ⟨#[]⟩, .int .i64 0, .slice none 0 0, .slice none 0 0, .int .u64 0, .int .u64 0, .int .u64 0, .int .i64 0, .int .i64 0, .slice none 0 0] 27 (0, 0))))
              have P3 := Lib.hid (recs_below O3.out ((Below.refl wn.heap.size wn).alloc (Nat.le_refl _) (.cells #[.int .u64 0, .string ⟨#[]⟩, .int .i64 0, .slice none 0 0, .slice none 0 0, .int .u64 0, .int .u64 0, .int .u64 0, .int .i64 0, .int .i64 0, .slice none 0 0] 27 (0, 0))))
              clear O1 O2 O3
              have HBY : Hid (Below wd.heap.size wd (wn.alloc (.cells #[.int .u64 0, .string ⟨#[]⟩, .int .i64 0, .slice none 0 0, .slice none 0 0, .int .u64 0, .int .u64 0, .int .u64 0, .int .i64 0, .int .i64 0, .slice none 0 0] 27 (0, 0)))) := Lib.hid (HBN.out.alloc HBN.out.size _)
              have HZ : Hid ((wn.alloc (.cells #[.int .u64 0, .string ⟨#[]⟩, .int .i64 0, .slice none 0 0, .slice none 0 0, .int .u64 0, .int .u64 0, .int .u64 0, .int .i64 0, .int .i64 0, .slice none 0 0] 27 (0, 0))).heap[wn.heap.size]? = some (.cells #[.int .u64 0, .string ⟨#[]⟩, .int .i64 0, .slice none 0 0, .slice none 0 0, .int .u64 0, .int .u64 0, .int .u64 0, .int .i64 0, .int .i64 0, .slice none 0 0] 27 (0, 0))) := Lib.hid (new_rowW _ _ _ rfl)
              have HG : Hid (wd.heap.size ≤ wn.heap.size) := Lib.hid HBN.out.size
              clear HBN
              generalize wn.alloc (.cells #[.int .u64 0, .string ⟨#[]⟩, .int .i64 0, .slice none 0 0, .slice none 0 0, .int .u64 0, .int .u64 0, .int .u64 0, .int .i64 0, .int .i64 0, .slice none 0 0] 27 (0, 0)) = Y at P1 P2 P3 HBY HZ ⊢
              generalize wn.heap.size = gy at HZ HG ⊢
              revert P1 P2 P3 HBY HZ HG
              revert Y gy r1 o1 y1 r2 o2 y2 r3 o3 y3
              exact hJ
            · go_simp
              have hHeldB := HCC.out (wd.alloc (.cells #[.int .u64 0, .string ⟨#[]⟩, .int .i64 0, .slice none 0 0, .slice none 0 0, .int .u64 0, .int .u64 0, .int .u64 0, .int .i64 0, .int .i64 0, .slice none 0 0] 27 (0, 0))) ((Below.refl _ _).alloc (Nat.le_refl _) _)
              refine hK.out _ _ (.inl hHeldB) ?_
              clear hK K
              try simp only [Act.put, List.setIfInBounds_toArray, List.set_cons_zero, List.set_cons_succ]
              refine wpAnyG_one (i := 21) (o := { dst := some 74, op := Op.call { callee := Callee.value (Operand.func 15), args := #[Operand.tmp 53, Operand.tmp 58, Operand.tmp 63, Operand.tmp 68, Operand.tmp 73], argTypes := #[27, 3, 3, 35, 22] }, type := 38, pos := "law.go:85", after := #[{ on := 0, ground := Ground.data }, { on := 5, ground := Ground.data }, { on := 10, ground := Ground.data }, { on := 15, ground := Ground.data }, { on := 20, ground := Ground.data }], guard := none }) (by kernel_rfl) rfl (fun K hK => ?_)
              go_simp
              go_at_call 15
              refine (HRC.out _ (HA.out.s.below ((Below.refl _ _).alloc (Nat.le_refl _) _))).mono ?_
              rintro e wn ⟨⟨r1, o1, y1⟩, ⟨r2, o2, y2⟩, ⟨r3, o3, y3⟩, rfl, hw1, hw2, hw3, hbn⟩
              dsimp only at hw1 hw2 hw3
              have O1 : Hid (wn.ownsRow wd.heap.size 44 6 (.slice r1 o1 y1) t'.cs.length (encL Cpn.cells t'.cs)) := Lib.hid (own_monoT hw1 (by simp))
              have O2 : Hid (wn.ownsRow wd.heap.size 48 2 (.slice r2 o2 y2) t'.ts.length (encL Txx.cells t'.ts)) := Lib.hid (own_monoT hw2 (by simp))
              have O3 : Hid (wn.ownsRow wd.heap.size 46 4 (.slice r3 o3 y3) t'.hs.length (encL Evt.cells t'.hs)) := Lib.hid (own_monoT hw3 (by simp))
              have HBN := Lib.hid hbn
              clear hw1 hw2 hw3 hbn
              refine hK.out _ _ (.inr rfl) ?_
              clear hK K
              try simp only [Act.put, List.setIfInBounds_toArray, List.set_cons_zero, List.set_cons_succ]
              refine wpAnyG_takeU (i := 22) (oi := { dst := some 52, op := Op.move (Operand.tmp 74), type := 38, pos := "law.go:85", after := #[{ on := 21, ground := Ground.data }], guard := none }) (v := ?_) rfl (by kernel_rfl) (by kernel_rfl) (by kernel_rfl) (by decide) (fun _ _ _ h => h) (Or.inl ⟨by rfl, ?_⟩) (.inr rfl) ?_
              rotate_left
              · intro w hSw; go_simp; try with_reducible rfl
              try simp only [Act.put, List.setIfInBounds_toArray, List.set_cons_zero, List.set_cons_succ]
              refine wpAnyG_takeU (i := 23) (oi := { dst := some 75, op := Op.extract (Operand.tmp 52) 0, type := 27, pos := "law.go:85", after := #[{ on := 22, ground := Ground.data }], guard := none }) (v := ?_) rfl (by kernel_rfl) (by kernel_rfl) (by kernel_rfl) (by decide) (fun _ _ _ h => h) (Or.inl ⟨by rfl, ?_⟩) (.inr rfl) ?_
              rotate_left
              · intro w hSw; go_simp; try with_reducible rfl
              try simp only [Act.put, List.setIfInBounds_toArray, List.set_cons_zero, List.set_cons_succ]
              refine wpAnyG_takeU (i := 24) (oi := { dst := some 76, op := Op.extract (Operand.tmp 52) 1, type := 3, pos := "law.go:85", after := #[{ on := 22, ground := Ground.data }, { on := 26, ground := Ground.gcOnly Departure.lateStores }], guard := none }) (v := ?_) rfl (by kernel_rfl) (by kernel_rfl) (by kernel_rfl) (by decide) (fun _ _ _ h => h) (Or.inl ⟨by rfl, ?_⟩) (.inr rfl) ?_
              rotate_left
              · intro w hSw; go_simp; try with_reducible rfl
              try simp only [Act.put, List.setIfInBounds_toArray, List.set_cons_zero, List.set_cons_succ]
              have P1 := Lib.hid O1.out
              have P2 := Lib.hid O2.out
              have P3 := Lib.hid O3.out
              clear O1 O2 O3
              have HBY : Hid (Below wd.heap.size wd wn) := Lib.hid (((Below.refl wd.heap.size wd).alloc (Nat.le_refl _) (.cells #[.int .u64 0, .string ⟨#[]⟩, .int .i64 0, .slice none 0 0, .slice none 0 0, .int .u64 0, .int .u64 0, .int .u64 0, .int .i64 0, .int .i64 0, .slice none 0 0] 27 (0, 0))).trans (HBN.out.mono (by simp)))
              have HZ : Hid (wn.heap[wd.heap.size]? = some (.cells #[.int .u64 0, .string ⟨#[]⟩, .int .i64 0, .slice none 0 0, .slice none 0 0, .int .u64 0, .int .u64 0, .int .u64 0, .int .i64 0, .int .i64 0, .slice none 0 0] 27 (0, 0))) := Lib.hid ((HBN.out.block _ (by simp)).trans (new_rowW _ _ _ rfl))
              clear HBN hHeldB
              generalize wn = Y at P1 P2 P3 HBY HZ ⊢
              obtain ⟨gy, hgy⟩ : ∃ gy, wd.heap.size = gy := ⟨_, rfl⟩
              rw [hgy] at HZ ⊢; have HG : Hid (wd.heap.size ≤ gy) := Lib.hid (Nat.le_of_eq hgy); clear hgy
              revert P1 P2 P3 HBY HZ HG
              revert Y gy r1 o1 y1 r2 o2 y2 r3 o3 y3
              exact hJ
          case k8 =>
            intro r1 o1 y1 r2 o2 y2 r3 o3 y3 Y gy P1 P2 P3 HBY HZ HG
            have th := there_rowT (n := 11) HZ.out rfl
            have h1n : ([.int .u64 t'.num, .string t'.loc, .int .i64 t'.iss, .slice r1 o1 y1, .slice r2 o2 y2, .int .u64 t'.prev, .int .u64 t'.org, .int .u64 t'.fst, .int .i64 t'.vou, .int .i64 t'.posts, .slice r3 o3 y3] : List Value).length = 11 := rfl
            have h1c : ([.int .u64 t'.num, .string t'.loc, .int .i64 t'.iss, .slice r1 o1 y1, .slice r2 o2 y2, .int .u64 t'.prev, .int .u64 t'.org, .int .u64 t'.fst, .int .i64 t'.vou, .int .i64 t'.posts, .slice r3 o3 y3] : List Value).all (·.oneCell') = true := rfl
            refine wpAnyG_one (i := 26) (o := { dst := none, op := Op.store 27 (Operand.tmp 9) (Operand.tmp 75), type := 0, pos := "law.go:85", after := #[{ on := 25, ground := Ground.data }, { on := 23, ground := Ground.data }, { on := 21, ground := Ground.chain }, { on := 0, ground := Ground.phase }, { on := 1, ground := Ground.phase }, { on := 2, ground := Ground.phase }, { on := 3, ground := Ground.phase }, { on := 4, ground := Ground.phase }, { on := 5, ground := Ground.phase }, { on := 6, ground := Ground.phase }, { on := 7, ground := Ground.phase }, { on := 8, ground := Ground.phase }, { on := 9, ground := Ground.phase }, { on := 10, ground := Ground.phase }, { on := 11, ground := Ground.phase }, { on := 12, ground := Ground.phase }, { on := 13, ground := Ground.phase }, { on := 14, ground := Ground.phase }, { on := 15, ground := Ground.phase }, { on := 16, ground := Ground.phase }, { on := 17, ground := Ground.phase }, { on := 18, ground := Ground.phase }, { on := 19, ground := Ground.phase }, { on := 20, ground := Ground.phase }, { on := 21, ground := Ground.phase }, { on := 22, ground := Ground.phase }, { on := 23, ground := Ground.phase }, { on := 24, ground := Ground.textOnly Departure.lateStores }, { on := 25, ground := Ground.phase }], guard := none }) (by kernel_rfl) rfl (fun K hK => ?_)
            go_simp
            refine hK.out _ _ (.inr rfl) ?_
            clear hK K
            try simp only [Act.put, List.setIfInBounds_toArray, List.set_cons_zero, List.set_cons_succ]
            refine wpAnyG_takeU (i := 27) (oi := { dst := some 10, op := Op.assign (Operand.tmp 76), type := 3, pos := "law.go:85", after := #[{ on := 24, ground := Ground.data }, { on := 26, ground := Ground.chain }, { on := 0, ground := Ground.phase }, { on := 1, ground := Ground.phase }, { on := 2, ground := Ground.phase }, { on := 3, ground := Ground.phase }, { on := 4, ground := Ground.phase }, { on := 5, ground := Ground.phase }, { on := 6, ground := Ground.phase }, { on := 7, ground := Ground.phase }, { on := 8, ground := Ground.phase }, { on := 9, ground := Ground.phase }, { on := 10, ground := Ground.phase }, { on := 11, ground := Ground.phase }, { on := 12, ground := Ground.phase }, { on := 13, ground := Ground.phase }, { on := 14, ground := Ground.phase }, { on := 15, ground := Ground.phase }, { on := 16, ground := Ground.phase }, { on := 17, ground := Ground.phase }, { on := 18, ground := Ground.phase }, { on := 19, ground := Ground.phase }, { on := 20, ground := Ground.phase }, { on := 21, ground := Ground.phase }, { on := 22, ground := Ground.phase }, { on := 23, ground := Ground.phase }, { on := 24, ground := Ground.phase }, { on := 25, ground := Ground.phase }, { on := 26, ground := Ground.phase }], guard := none }) (v := ?_) rfl (by kernel_rfl) (by kernel_rfl) (by kernel_rfl) (by decide) (fun _ _ _ h => h) (Or.inl ⟨by rfl, ?_⟩) (.inr rfl) ?_
            rotate_left
            · intro w hSw; go_simp; try with_reducible rfl
            try simp only [Act.put, List.setIfInBounds_toArray, List.set_cons_zero, List.set_cons_succ]
            refine wpAnyG_done (by kernel_rfl) ?_ _
            have HBW := Lib.hid (below_put HBY.out HG.out [.int .u64 t'.num, .string t'.loc, .int .i64 t'.iss, .slice r1 o1 y1, .slice r2 o2 y2, .int .u64 t'.prev, .int .u64 t'.org, .int .u64 t'.fst, .int .i64 t'.vou, .int .i64 t'.posts, .slice r3 o3 y3])
            have Hg9r := Lib.hid (setCells_rowT (cs := [.int .u64 t'.num, .string t'.loc, .int .i64 t'.iss, .slice r1 o1 y1, .slice r2 o2 y2, .int .u64 t'.prev, .int .u64 t'.org, .int .u64 t'.fst, .int .i64 t'.vou, .int .i64 t'.posts, .slice r3 o3 y3]) HZ.out rfl)
            have Hg9t := Lib.hid ((TS.of_own (t := t') (c := ⟨r1, o1, y1⟩) (x := ⟨r2, o2, y2⟩) (h := ⟨r3, o3, y3⟩) HWF.out P1.out P2.out P3.out).only (Off.of_row P1.out P2.out P3.out HZ.out) ((Only.refl gy Y).setCells 0 [.int .u64 t'.num, .string t'.loc, .int .i64 t'.iss, .slice r1 o1 y1, .slice r2 o2 y2, .int .u64 t'.prev, .int .u64 t'.org, .int .u64 t'.fst, .int .i64 t'.vou, .int .i64 t'.posts, .slice r3 o3 y3]))
            have Hg9o : Hid (Off w.heap.size t' ⟨r1, o1, y1⟩ ⟨r2, o2, y2⟩ ⟨r3, o3, y3⟩) := Lib.hid (Off.of_own P1.out P2.out P3.out (block_lt HA.out.r))
            have HA := Lib.hid (HA.out.below HBW.out)
            have HRg6 := Lib.hid ((HBW.out.block _ (block_lt HRg6.out)).trans HRg6.out)
            have HT5 := Lib.hid (HT5.out.below HBW.out)
            have Hg7r := Lib.hid ((HBW.out.block _ (block_lt Hg7r.out)).trans Hg7r.out)
            have Hg7t := Lib.hid (Hg7t.out.below HBW.out)
            clear HBW HBY HZ HG P1 P2 P3 HCC hHeld th h1n h1c
            generalize Y.setCells gy 0 [.int .u64 t'.num, .string t'.loc, .int .i64 t'.iss, .slice r1 o1 y1, .slice r2 o2 y2, .int .u64 t'.prev, .int .u64 t'.org, .int .u64 t'.fst, .int .i64 t'.vou, .int .i64 t'.posts, .slice r3 o3 y3] = w9 at *
            try clear wd
            generalize gy = g9 at *
            by_cases he0 : er = 0
            · subst he0
              obtain ⟨hmy, hln⟩ := chgT_ok HER.out HT'.out
              have HMY := Lib.hid hmy
              have HLN := Lib.hid hln
              clear hmy hln
              obtain ⟨f1, f2⟩ := row_loT 11 HA.out.r rfl rfl
              obtain ⟨f3, f4⟩ := row_loT 11 HRg6.out rfl rfl
              obtain ⟨f5, f6⟩ := row_loT 11 Hg7r.out rfl rfl
              obtain ⟨f7, f8⟩ := row_loT 11 Hg9r.out rfl rfl
              go_wp2_with fail
              clear f1 f2 f3 f4 f5 f6 f7 f8
              refine (rsame_any t' t' ⟨q1, n1, z1⟩ ⟨q2, n2, z2⟩ ⟨q3, n3, z3⟩ ⟨r1, o1, y1⟩ ⟨r2, o2, y2⟩ ⟨r3, o3, y3⟩ _ Hg7t.out Hg9t.out true (by simp)).mono ?_
              rintro e wn ⟨rfl, hbn⟩
              have HA := Lib.hid (HA.out.below hbn)
              have HRg6 := Lib.hid ((hbn.block _ (block_lt HRg6.out)).trans HRg6.out)
              have HT5 := Lib.hid (HT5.out.below hbn)
              have Hg7r := Lib.hid ((hbn.block _ (block_lt Hg7r.out)).trans Hg7r.out)
              have Hg7t := Lib.hid (Hg7t.out.below hbn)
              have Hg9r := Lib.hid ((hbn.block _ (block_lt Hg9r.out)).trans Hg9r.out)
              have Hg9t := Lib.hid (Hg9t.out.below hbn)
              clear hbn
              generalize wn = wm at *
              obtain ⟨f1, f2⟩ := row_loT 11 HA.out.r rfl rfl
              obtain ⟨f3, f4⟩ := row_loT 11 HRg6.out rfl rfl
              obtain ⟨f5, f6⟩ := row_loT 11 Hg7r.out rfl rfl
              obtain ⟨f7, f8⟩ := row_loT 11 Hg9r.out rfl rfl
              go_wp2_with fail
              clear f1 f2 f3 f4 f5 f6 f7 f8
              refine (rsame_any t t ⟨a1, k1, b1⟩ ⟨a2, k2, b2⟩ ⟨a3, k3, b3⟩ c x h _ HT5.out HA.out.s true (by simp)).mono ?_
              rintro e wn ⟨rfl, hbn⟩
              have HA := Lib.hid (HA.out.below hbn)
              have HRg6 := Lib.hid ((hbn.block _ (block_lt HRg6.out)).trans HRg6.out)
              have HT5 := Lib.hid (HT5.out.below hbn)
              have Hg7r := Lib.hid ((hbn.block _ (block_lt Hg7r.out)).trans Hg7r.out)
              have Hg7t := Lib.hid (Hg7t.out.below hbn)
              have Hg9r := Lib.hid ((hbn.block _ (block_lt Hg9r.out)).trans Hg9r.out)
              have Hg9t := Lib.hid (Hg9t.out.below hbn)
              clear hbn
              generalize wn = wm at *
              obtain ⟨f1, f2⟩ := row_loT 11 HA.out.r rfl rfl
              obtain ⟨f3, f4⟩ := row_loT 11 HRg6.out rfl rfl
              obtain ⟨f5, f6⟩ := row_loT 11 Hg7r.out rfl rfl
              obtain ⟨f7, f8⟩ := row_loT 11 Hg9r.out rfl rfl
              go_wp2_with fail
              clear f1 f2 f3 f4 f5 f6 f7 f8
              refine (HMY.out ▸ tmay_any t' ⟨q1, n1, z1⟩ ⟨q2, n2, z2⟩ ⟨q3, n3, z3⟩ _ Hg7t.out).mono ?_
              rintro e wn ⟨rfl, hbn⟩
              have HA := Lib.hid (HA.out.below hbn)
              have HRg6 := Lib.hid ((hbn.block _ (block_lt HRg6.out)).trans HRg6.out)
              have HT5 := Lib.hid (HT5.out.below hbn)
              have Hg7r := Lib.hid ((hbn.block _ (block_lt Hg7r.out)).trans Hg7r.out)
              have Hg7t := Lib.hid (Hg7t.out.below hbn)
              have Hg9r := Lib.hid ((hbn.block _ (block_lt Hg9r.out)).trans Hg9r.out)
              have Hg9t := Lib.hid (Hg9t.out.below hbn)
              clear hbn
              generalize wn = wm at *
              obtain ⟨f1, f2⟩ := row_loT 11 HA.out.r rfl rfl
              obtain ⟨f3, f4⟩ := row_loT 11 HRg6.out rfl rfl
              obtain ⟨f5, f6⟩ := row_loT 11 Hg7r.out rfl rfl
              obtain ⟨f7, f8⟩ := row_loT 11 Hg9r.out rfl rfl
              go_wp2_with fail
              clear f1 f2 f3 f4 f5 f6 f7 f8
              refine (HMY.out ▸ rmay_any t' ⟨r1, o1, y1⟩ ⟨r2, o2, y2⟩ ⟨r3, o3, y3⟩ _ Hg9t.out).mono ?_
              rintro e wn ⟨rfl, hbn⟩
              have HA := Lib.hid (HA.out.below hbn)
              have HRg6 := Lib.hid ((hbn.block _ (block_lt HRg6.out)).trans HRg6.out)
              have HT5 := Lib.hid (HT5.out.below hbn)
              have Hg7r := Lib.hid ((hbn.block _ (block_lt Hg7r.out)).trans Hg7r.out)
              have Hg7t := Lib.hid (Hg7t.out.below hbn)
              have Hg9r := Lib.hid ((hbn.block _ (block_lt Hg9r.out)).trans Hg9r.out)
              have Hg9t := Lib.hid (Hg9t.out.below hbn)
              clear hbn
              generalize wn = wm at *
              obtain ⟨f1, f2⟩ := row_loT 11 HA.out.r rfl rfl
              obtain ⟨f3, f4⟩ := row_loT 11 HRg6.out rfl rfl
              obtain ⟨f5, f6⟩ := row_loT 11 Hg7r.out rfl rfl
              obtain ⟨f7, f8⟩ := row_loT 11 Hg9r.out rfl rfl
              have th := there_rowT (n := 11) HA.out.r rfl
              have h1n : ([.int .u64 t'.num, .string t'.loc, .int .i64 t'.iss, .slice q1 n1 z1, .slice q2 n2 z2, .int .u64 t'.prev, .int .u64 t'.org, .int .u64 t'.fst, .int .i64 t'.vou, .int .i64 t'.posts, .slice q3 n3 z3] : List Value).length = 11 := rfl
              have h1c : ([.int .u64 t'.num, .string t'.loc, .int .i64 t'.iss, .slice q1 n1 z1, .slice q2 n2 z2, .int .u64 t'.prev, .int .u64 t'.org, .int .u64 t'.fst, .int .i64 t'.vou, .int .i64 t'.posts, .slice q3 n3 z3] : List Value).all (·.oneCell') = true := rfl
              go_wp2_with fail
              go_roundw
              case rel => exact ⟨k + 1, t', ⟨q1, n1, z1⟩, ⟨q2, n2, z2⟩, ⟨q3, n3, z3⟩, by omega, by go_num, HA.out.turn (Nat.le_refl _) rfl Hg7t.out Hg7o.out HLN.out⟩
              case measure => simp [intOf]; omega
            · have he1 : (er == 0) = false := by simpa using he0
              clear he0
              obtain ⟨f1, f2⟩ := row_loT 11 HA.out.r rfl rfl
              obtain ⟨f3, f4⟩ := row_loT 11 HRg6.out rfl rfl
              obtain ⟨f5, f6⟩ := row_loT 11 Hg7r.out rfl rfl
              obtain ⟨f7, f8⟩ := row_loT 11 Hg9r.out rfl rfl
              go_wp2_with fail
              clear f1 f2 f3 f4 f5 f6 f7 f8
              refine (rsame_any t' t' ⟨q1, n1, z1⟩ ⟨q2, n2, z2⟩ ⟨q3, n3, z3⟩ ⟨r1, o1, y1⟩ ⟨r2, o2, y2⟩ ⟨r3, o3, y3⟩ _ Hg7t.out Hg9t.out true (by simp)).mono ?_
              rintro e wn ⟨rfl, hbn⟩
              have HA := Lib.hid (HA.out.below hbn)
              have HRg6 := Lib.hid ((hbn.block _ (block_lt HRg6.out)).trans HRg6.out)
              have HT5 := Lib.hid (HT5.out.below hbn)
              have Hg7r := Lib.hid ((hbn.block _ (block_lt Hg7r.out)).trans Hg7r.out)
              have Hg7t := Lib.hid (Hg7t.out.below hbn)
              have Hg9r := Lib.hid ((hbn.block _ (block_lt Hg9r.out)).trans Hg9r.out)
              have Hg9t := Lib.hid (Hg9t.out.below hbn)
              clear hbn
              generalize wn = wm at *
              obtain ⟨f1, f2⟩ := row_loT 11 HA.out.r rfl rfl
              obtain ⟨f3, f4⟩ := row_loT 11 HRg6.out rfl rfl
              obtain ⟨f5, f6⟩ := row_loT 11 Hg7r.out rfl rfl
              obtain ⟨f7, f8⟩ := row_loT 11 Hg9r.out rfl rfl
              go_wp2_with fail
              clear f1 f2 f3 f4 f5 f6 f7 f8
              refine (rsame_any t t ⟨a1, k1, b1⟩ ⟨a2, k2, b2⟩ ⟨a3, k3, b3⟩ c x h _ HT5.out HA.out.s true (by simp)).mono ?_
              rintro e wn ⟨rfl, hbn⟩
              have HA := Lib.hid (HA.out.below hbn)
              have HRg6 := Lib.hid ((hbn.block _ (block_lt HRg6.out)).trans HRg6.out)
              have HT5 := Lib.hid (HT5.out.below hbn)
              have Hg7r := Lib.hid ((hbn.block _ (block_lt Hg7r.out)).trans Hg7r.out)
              have Hg7t := Lib.hid (Hg7t.out.below hbn)
              have Hg9r := Lib.hid ((hbn.block _ (block_lt Hg9r.out)).trans Hg9r.out)
              have Hg9t := Lib.hid (Hg9t.out.below hbn)
              clear hbn
              generalize wn = wm at *
              obtain ⟨f1, f2⟩ := row_loT 11 HA.out.r rfl rfl
              obtain ⟨f3, f4⟩ := row_loT 11 HRg6.out rfl rfl
              obtain ⟨f5, f6⟩ := row_loT 11 Hg7r.out rfl rfl
              obtain ⟨f7, f8⟩ := row_loT 11 Hg9r.out rfl rfl
              go_wp2_with fail
              go_roundw
              case rel => exact ⟨k + 1, t, c, x, h, by omega, by go_num, HA.out⟩
              case measure => simp [intOf]; omega
      · obtain rfl : k = n := by omega
        have HB := Lib.hid HA.out.b
        go_wp2_with (go_at_call 12; refine (HKN.out _).mono ?_; rintro e wk ⟨rfl, hbk⟩; have HBK := Lib.hid (HB.out.trans (hbk.mono HB.out.size)); clear hbk)
        go_ret
        exact ⟨rfl, HBK.out⟩
  · have hor : mu = true ∨ (mu = false ∧ 70 < n) := by cases mu <;> simp_all
    clear hgo
    rcases hor with rfl | ⟨rfl, h70⟩
    all_goals
      go_enter Try.func3, Try.ntmps3
      go_wp2_with (first | (go_at_call 11; refine (HM.out _ HB.out).mono ?_; rintro e wn ⟨rfl, hbn⟩; have HB := Lib.hid (HB.out.trans (hbn.mono HB.out.size)); clear hbn) | (go_at_call 12; refine (HKN.out _).mono ?_; rintro e wk ⟨rfl, hbk⟩; have HBK := Lib.hid (HB.out.trans (hbk.mono HB.out.size)); clear hbk))
      go_ret
      exact ⟨rfl, HBK.out⟩
set_option maxRecDepth 100000 in
theorem lifted (os : Os) (started : os.Started) (H : Type) (enc : TypeId × Value → H) :
    ReturnsInHanded {} Try.checked os 3 .any (Rows.ticketChangesSpec.pre6 enc Try.prog Try.f3 Rows.ticketChangesRow.domain false) (Rows.ticketChangesSpec.post enc Try.prog Try.f3 false true false false) := by
  refine returnsInHanded_of_change (C := Try.checked) own started (by kernel_rfl) Try.func3
    (ChangeSpec.witness6 (enc := enc) (C := Try.checked) false ⟨#[], #[.agg #[.int .u64 0, .string ⟨#[]⟩, .int .i64 0, .slice none 0 0, .slice none 0 0, .int .u64 0, .int .u64 0, .int .u64 0, .int .i64 0, .int .i64 0, .slice none 0 0], .slice none 0 0], []⟩ 8 (by kernel_rfl) (by kernel_rfl) (by kernel_rfl) (by kernel_rfl)) ?_
  intro W base args ds gs before hval0 hW hcnd _
  have hval : ∀ (j : Nat) t v, Try.f3.params[j]? = some t → args[j]? = some v → Value.okWide Try.prog W .any base t v := hval0
  have hW' := hW
  obtain ⟨p, q, hA0, hV, rfl, hfz, hnd⟩ := hW
  have hA : DataW.TrodAll enc Try.prog W 0 (fun _ => true) true Try.f3.params.toList args.toList ds p := hA0
  rw [Try.params3] at hA hval
  obtain ⟨v0, vs0, d0, ds0, p0, q0, hargs, rfl, rfl, h0, r0⟩ := trodAll_cons hA
  obtain ⟨v1, vs1, d1, ds1, p1, q1, rfl, rfl, rfl, h1, r1⟩ := trodAll_cons r0
  obtain ⟨rfl, rfl, rfl⟩ := trodAll_nil r1
  obtain rfl : args = #[v0, v1] := by cases args; simp_all
  obtain ⟨t, c, x, h, rfl, hts⟩ := open_ticket (hval 0 _ v0 rfl rfl) h0
  obtain ⟨l, q', n, cap, rfl, hst, hlw⟩ := open_steps' (hval 1 _ v1 rfl rfl) h1
  clear hA0 hval0
  refine (walk t c x h l q' n cap hlw W hts hst).mono fun e W' ⟨he, hg⟩ => ?_
  subst he
  exact ⟨_, rfl, post_law laidOut rfl hW' ⟨rfl, rfl, rfl⟩ (by kernel_rfl) hg Try.underlying4 rfl⟩

theorem proved : Rows.TicketChangesSaid :=
  OpenClaim.holds_of_wide 3 Try.f3 rfl rfl rfl rfl rfl rfl rfl ⟨rfl, rfl, rfl, rfl, rfl⟩ rfl rfl rfl rfl rfl (by kernel_rfl) Try.func3 (by kernel_rfl)
    (of_decide_eq_true (by kernel_rfl)) (by unfold Func.isWrapper; first | (rw [if_pos (by decide +kernel)]; kernel_rfl) | (rw [if_neg (by decide +kernel)]; exact ⟨rfl, rfl⟩))
    (fun os started H enc _ => lifted os started H enc)
#print axioms proved
end Go.Proofs.Ytmadkfahkbdibaa.ticketChanges
