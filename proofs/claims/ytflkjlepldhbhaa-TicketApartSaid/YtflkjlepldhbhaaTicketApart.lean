/- The law TicketApart: that what Change tells is the caller's: written over, the ticket that was handed in is as it was. -/
import Derived.Test.YtflkjlepldhbhaaTrD
set_option linter.unusedVariables false
set_option linter.unusedSimpArgs false
namespace Go.Proofs.Ytflkjlepldhbhaa.ticketApart
open Go.ChangeShapes Go.WideShapes Go.ChangeAt Go.RowKit Go.Deep

attribute [local go_sem ↓] Tk_execLoad Tk_execStore Cp_execStore Tx_execStore Ev_execStore
attribute [local go_sem] Tk_load Tk_store Cp_store Tx_store Ev_store loL_drew okL_drew there_sc World.there_drew
theorem some_ofT {w : World} {base e n m k c : Nat} {p : Option Addr} {xs : List Value} (h : w.ownsRow base e n (.slice p k c) m xs) : 0 < m → ∃ b, p = some ⟨b, 0, none⟩ := fun h0 => by
  obtain ⟨b, c', hv⟩ := own_someT h h0
  injection hv with h1 h2 h3
  exact ⟨b, h1⟩
theorem own_capT {w : World} {base e n m : Nat} {v : Value} {xs : List Value} (h : w.ownsRow base e n v m xs) : m ≤ maxLen := by
  obtain ⟨-, ⟨rfl, rfl⟩ | ⟨g, cap, cur, rfl, hg, hh, hnc, hcm, -⟩⟩ := h
  · exact Nat.zero_le _
  · exact Nat.le_trans hnc hcm
structure ZAt (w5 wr : World) (g : Nat) (row : Array Value) (q1 q2 q3 : Option Addr) (s1 s2 s3 : Nat) : Prop where
  b : Below w5.heap.size w5 wr
  r : wr.heap[g]? = some (.cells row 27 (0, 0))
  gb : w5.heap.size ≤ g
  c1 : RowOf w5.heap.size wr q1 44 s1
  c2 : RowOf w5.heap.size wr q2 48 s2
  c3 : RowOf w5.heap.size wr q3 46 s3
theorem ZAt.set {w5 wr : World} {g : Nat} {row : Array Value} {q1 q2 q3 : Option Addr} {s1 s2 s3 : Nat} (h : ZAt w5 wr g row q1 q2 q3 s1 s2 s3) {b : Nat} {e : TypeId} (hb : w5.heap.size ≤ b) (hr : ∃ cs, wr.heap[b]? = some (.cells cs e (0, 0))) (he : e ≠ 27) (o : Nat) (vs : List Value) : ZAt w5 (wr.setCells b o vs) g row q1 q2 q3 s1 s2 s3 := by
  have hne : g ≠ b := fun hg => by
    subst hg
    obtain ⟨cs, hr⟩ := hr
    rw [h.r] at hr
    injection hr with hr
    injection hr with h1 h2 h3
    exact he h2.symm
  exact ⟨Only.below h.b hb h.b.size ((Only.refl b wr).setCells o vs), (((Only.refl b wr).setCells o vs).block g (block_lt h.r) hne).trans h.r, h.gb, h.c1.setCells _ _ _, h.c2.setCells _ _ _, h.c3.setCells _ _ _⟩
theorem ZAt.set1 {w5 wr : World} {g b : Nat} {row : Array Value} {q2 q3 : Option Addr} {s1 s2 s3 : Nat} (h : ZAt w5 wr g row (some ⟨b, 0, none⟩) q2 q3 s1 s2 s3) (o : Nat) (vs : List Value) : ZAt w5 (wr.setCells b o vs) g row (some ⟨b, 0, none⟩) q2 q3 s1 s2 s3 := by
  obtain ⟨h1, cs, h2, -⟩ := h.c1 b rfl
  exact h.set h1 ⟨cs, h2⟩ (by decide) o vs
theorem ZAt.set2 {w5 wr : World} {g b : Nat} {row : Array Value} {q1 q3 : Option Addr} {s1 s2 s3 : Nat} (h : ZAt w5 wr g row q1 (some ⟨b, 0, none⟩) q3 s1 s2 s3) (o : Nat) (vs : List Value) : ZAt w5 (wr.setCells b o vs) g row q1 (some ⟨b, 0, none⟩) q3 s1 s2 s3 := by
  obtain ⟨h1, cs, h2, -⟩ := h.c2 b rfl
  exact h.set h1 ⟨cs, h2⟩ (by decide) o vs
theorem ZAt.set3 {w5 wr : World} {g b : Nat} {row : Array Value} {q1 q2 : Option Addr} {s1 s2 s3 : Nat} (h : ZAt w5 wr g row q1 q2 (some ⟨b, 0, none⟩) s1 s2 s3) (o : Nat) (vs : List Value) : ZAt w5 (wr.setCells b o vs) g row q1 q2 (some ⟨b, 0, none⟩) s1 s2 s3 := by
  obtain ⟨h1, cs, h2, -⟩ := h.c3 b rfl
  exact h.set h1 ⟨cs, h2⟩ (by decide) o vs
set_option maxRecDepth 8000 in
set_option maxHeartbeats 8000000 in
theorem walk (t : Tk) (c x h : Sl) (co on tq wi : Int) (hco : I64 co) (hon : I64 on) (hwi : U64 wi) (w : World) (ts : TS w t c x h) : Calls Try.prog 5 #[.agg #[.int .u64 t.num, .string t.loc, .int .i64 t.iss, .slice c.p c.n c.c, .slice x.p x.n x.c, .int .u64 t.prev, .int .u64 t.org, .int .u64 t.fst, .int .i64 t.vou, .int .i64 t.posts, .slice h.p h.n h.c], .agg #[.int .i64 co, .int .i64 on, .int .i64 tq, .int .u64 wi]] w fun e w' => e = .returned (.bool true) ∧ Below w.heap.size w w' := by
  have HTT := Lib.hid ts
  have HB := Lib.hid (((Below.refl w.heap.size w).alloc (Nat.le_refl _) (.cells #[.int .u64 t.num, .string t.loc, .int .i64 t.iss, .slice c.p c.n c.c, .slice x.p x.n x.c, .int .u64 t.prev, .int .u64 t.org, .int .u64 t.fst, .int .i64 t.vou, .int .i64 t.posts, .slice h.p h.n h.c] 27 (0, 0))).alloc (by simp) (.cells #[.int .i64 co, .int .i64 on, .int .i64 tq, .int .u64 wi] 37 (0, 0)))
  have HR : Hid (((w.alloc (.cells #[.int .u64 t.num, .string t.loc, .int .i64 t.iss, .slice c.p c.n c.c, .slice x.p x.n x.c, .int .u64 t.prev, .int .u64 t.org, .int .u64 t.fst, .int .i64 t.vou, .int .i64 t.posts, .slice h.p h.n h.c] 27 (0, 0))).alloc (.cells #[.int .i64 co, .int .i64 on, .int .i64 tq, .int .u64 wi] 37 (0, 0))).heap[w.heap.size]? = some (.cells #[.int .u64 t.num, .string t.loc, .int .i64 t.iss, .slice c.p c.n c.c, .slice x.p x.n x.c, .int .u64 t.prev, .int .u64 t.org, .int .u64 t.fst, .int .i64 t.vou, .int .i64 t.posts, .slice h.p h.n h.c] 27 (0, 0))) := Lib.hid (row_after (new_rowW _ _ _ rfl))
  have HSR : Hid (((w.alloc (.cells #[.int .u64 t.num, .string t.loc, .int .i64 t.iss, .slice c.p c.n c.c, .slice x.p x.n x.c, .int .u64 t.prev, .int .u64 t.org, .int .u64 t.fst, .int .i64 t.vou, .int .i64 t.posts, .slice h.p h.n h.c] 27 (0, 0))).alloc (.cells #[.int .i64 co, .int .i64 on, .int .i64 tq, .int .u64 wi] 37 (0, 0))).heap[w.heap.size + 1]? = some (.cells #[.int .i64 co, .int .i64 on, .int .i64 tq, .int .u64 wi] 37 (0, 0))) := Lib.hid (new_rowW _ _ _ (by simp))
  obtain ⟨f1, f2⟩ := row_loT 11 HR.out rfl rfl
  have HM := Lib.hid (fun W hW => rmuch_any t c x h W (ts.below hW))
  have HCP := Lib.hid (fun W hW => rcopy_any t c x h W (ts.below hW))
  have HCH := Lib.hid (fun W hW => tchange_any t c x h co on tq wi hco hon hwi W (ts.below hW))
  have HAT := Lib.hid (fun W hW => tat_any t c x h on W (ts.below hW))
  have HWF := Lib.hid ts.wf
  have HKN := Lib.hid (fun W => known13_any W)
  obtain ⟨mu, hmu⟩ : ∃ m, Tkt.muchB t = m := ⟨_, rfl⟩
  have HMU := Lib.hid hmu
  rw [hmu] at HM
  obtain ⟨er, her⟩ : ∃ er, Tkt.errC t co on tq wi = er := ⟨_, rfl⟩
  obtain ⟨t', ht'⟩ : ∃ t', Tkt.chgT t co on tq wi = t' := ⟨_, rfl⟩
  rw [her, ht'] at HCH
  obtain ⟨al, hal⟩ : ∃ al, Tkt.atL on t = al := ⟨_, rfl⟩
  rw [hal] at HAT
  clear hmu her ht' hal ts hco hon hwi
  cases mu
  · go_enter Try.func5, Try.ntmps5
    have hlen : t.cs.length ≤ 20 ∧ t.ts.length ≤ 20 ∧ t.hs.length ≤ 100 := by have := HMU.out; unfold Tkt.muchB at this; simp at this; omega
    have HLEN := Lib.hid hlen
    clear hlen
    go_upto_region 4 with (first | (go_at_call 11; refine (HM.out _ HB.out).mono ?_; rintro e wn ⟨rfl, hbn⟩; have HR := Lib.hid ((hbn.block _ (block_lt HR.out)).trans HR.out); have HSR := Lib.hid ((hbn.block _ (block_lt HSR.out)).trans HSR.out); have HB := Lib.hid (HB.out.trans (hbn.mono HB.out.size)); clear hbn; obtain ⟨f1, f2⟩ := row_loT 11 HR.out rfl rfl) | (go_at_call 13; refine (HCP.out _ HB.out (by have := HLEN.out; omega) (by have := HLEN.out; omega) (by have := HLEN.out; omega)).mono ?_; rintro e wn ⟨⟨a1, k1, b1⟩, ⟨a2, k2, b2⟩, ⟨a3, k3, b3⟩, rfl, hw1, hw2, hw3, hbn⟩; have HT5 := Lib.hid (TS.of_own (t := t) (c := ⟨a1, k1, b1⟩) (x := ⟨a2, k2, b2⟩) (h := ⟨a3, k3, b3⟩) HWF.out hw1 hw2 hw3); clear hw1 hw2 hw3; have HR := Lib.hid ((hbn.block _ (block_lt HR.out)).trans HR.out); have HSR := Lib.hid ((hbn.block _ (block_lt HSR.out)).trans HSR.out); have HB := Lib.hid (HB.out.trans (hbn.mono HB.out.size)); have th := there_newT (w := wn) (zs := [.int .u64 0, .string ⟨#[]⟩, .int .i64 0, .slice none 0 0, .slice none 0 0, .int .u64 0, .int .u64 0, .int .u64 0, .int .i64 0, .int .i64 0, .slice none 0 0]) (e := 27) (n := 11) rfl; have h1n : ([.int .u64 t.num, .string t.loc, .int .i64 t.iss, .slice a1 k1 b1, .slice a2 k2 b2, .int .u64 t.prev, .int .u64 t.org, .int .u64 t.fst, .int .i64 t.vou, .int .i64 t.posts, .slice a3 k3 b3] : List Value).length = 11 := rfl; have h1c : ([.int .u64 t.num, .string t.loc, .int .i64 t.iss, .slice a1 k1 b1, .slice a2 k2 b2, .int .u64 t.prev, .int .u64 t.org, .int .u64 t.fst, .int .i64 t.vou, .int .i64 t.posts, .slice a3 k3 b3] : List Value).all (·.oneCell') = true := rfl; clear hbn; obtain ⟨f1, f2⟩ := row_loT 11 HR.out rfl rfl))
    have HP := Lib.hid (putTk (W := wn) (cs := [.int .u64 t.num, .string t.loc, .int .i64 t.iss, .slice a1 k1 b1, .slice a2 k2 b2, .int .u64 t.prev, .int .u64 t.org, .int .u64 t.fst, .int .i64 t.vou, .int .i64 t.posts, .slice a3 k3 b3]) rfl)
    have HR := Lib.hid ((HP.out.2.block _ (block_lt HR.out)).trans HR.out)
    have HSR := Lib.hid ((HP.out.2.block _ (block_lt HSR.out)).trans HSR.out)
    have HT5 := Lib.hid (HT5.out.below HP.out.2)
    have HB := Lib.hid (HB.out.trans (HP.out.2.mono HB.out.size))
    have HRg5 := Lib.hid HP.out.1
    clear HP th h1n h1c
    generalize (wn.alloc (.cells #[.int .u64 0, .string ⟨#[]⟩, .int .i64 0, .slice none 0 0, .slice none 0 0, .int .u64 0, .int .u64 0, .int .u64 0, .int .i64 0, .int .i64 0, .slice none 0 0] 27 (0, 0))).setCells wn.heap.size 0 [.int .u64 t.num, .string t.loc, .int .i64 t.iss, .slice a1 k1 b1, .slice a2 k2 b2, .int .u64 t.prev, .int .u64 t.org, .int .u64 t.fst, .int .i64 t.vou, .int .i64 t.posts, .slice a3 k3 b3] = w5 at *
    generalize wn.heap.size = g5 at *
    obtain ⟨f1, f2⟩ := row_loT 11 HR.out rfl rfl
    have hcs := fun j => cell_of_row w5 (w.heap.size + 1) j _ _ _ HSR.out
    have HB5 := Lib.hid HB.out
    go_upto_region 5 with (go_at_call 14; refine (HCH.out _ HB.out).mono ?_; rintro e wn ⟨⟨q1, n1, z1⟩, ⟨q2, n2, z2⟩, ⟨q3, n3, z3⟩, rfl, hw1, hw2, hw3, hbn⟩; dsimp only at hw1 hw2 hw3; have HN1 := Lib.hid (LS.of_own hw1 Cpn.cells_length (by decide)).length; have HN2 := Lib.hid (LS.of_own hw2 Txx.cells_length (by decide)).length; have HN3 := Lib.hid (LS.of_own hw3 Evt.cells_length (by decide)).length; have HZ1 := Lib.hid (some_ofT hw1); have HZ2 := Lib.hid (some_ofT hw2); have HZ3 := Lib.hid (some_ofT hw3); have HQ1 := Lib.hid (RowOf.of_own hw1); have HQ2 := Lib.hid (RowOf.of_own hw2); have HQ3 := Lib.hid (RowOf.of_own hw3); clear hw1 hw2 hw3; have HBB := Lib.hid hbn; have HGX := Lib.hid hbn.size; have HB := Lib.hid (HB.out.trans (hbn.mono HB.out.size)); have th := there_newT (w := wn) (zs := [.int .u64 0, .string ⟨#[]⟩, .int .i64 0, .slice none 0 0, .slice none 0 0, .int .u64 0, .int .u64 0, .int .u64 0, .int .i64 0, .int .i64 0, .slice none 0 0]) (e := 27) (n := 11) rfl; have h1n : ([.int .u64 t'.num, .string t'.loc, .int .i64 t'.iss, .slice q1 n1 z1, .slice q2 n2 z2, .int .u64 t'.prev, .int .u64 t'.org, .int .u64 t'.fst, .int .i64 t'.vou, .int .i64 t'.posts, .slice q3 n3 z3] : List Value).length = 11 := rfl; have h1c : ([.int .u64 t'.num, .string t'.loc, .int .i64 t'.iss, .slice q1 n1 z1, .slice q2 n2 z2, .int .u64 t'.prev, .int .u64 t'.org, .int .u64 t'.fst, .int .i64 t'.vou, .int .i64 t'.posts, .slice q3 n3 z3] : List Value).all (·.oneCell') = true := rfl; clear hbn)
    clear hcs f1 f2
    have HP := Lib.hid (putTk (W := wn) (cs := [.int .u64 t'.num, .string t'.loc, .int .i64 t'.iss, .slice q1 n1 z1, .slice q2 n2 z2, .int .u64 t'.prev, .int .u64 t'.org, .int .u64 t'.fst, .int .i64 t'.vou, .int .i64 t'.posts, .slice q3 n3 z3]) rfl)
    have HQ1 := Lib.hid (HQ1.out.below HP.out.2)
    have HQ2 := Lib.hid (HQ2.out.below HP.out.2)
    have HQ3 := Lib.hid (HQ3.out.below HP.out.2)
    have HBB := Lib.hid (HBB.out.trans (HP.out.2.mono HBB.out.size))
    have HB := Lib.hid (HB.out.trans (HP.out.2.mono HB.out.size))
    have HRg6 := Lib.hid HP.out.1
    clear HP th h1n h1c
    generalize (wn.alloc (.cells #[.int .u64 0, .string ⟨#[]⟩, .int .i64 0, .slice none 0 0, .slice none 0 0, .int .u64 0, .int .u64 0, .int .u64 0, .int .i64 0, .int .i64 0, .slice none 0 0] 27 (0, 0))).setCells wn.heap.size 0 [.int .u64 t'.num, .string t'.loc, .int .i64 t'.iss, .slice q1 n1 z1, .slice q2 n2 z2, .int .u64 t'.prev, .int .u64 t'.org, .int .u64 t'.fst, .int .i64 t'.vou, .int .i64 t'.posts, .slice q3 n3 z3] = w6 at *
    generalize wn.heap.size = g6 at *
    have HGB : Hid (w5.heap.size ≤ g6) := Lib.hid (by first | exact HGX.out | omega)
    have HA : Hid (ZAt w5 w6 g6 #[.int .u64 t'.num, .string t'.loc, .int .i64 t'.iss, .slice q1 n1 z1, .slice q2 n2 z2, .int .u64 t'.prev, .int .u64 t'.org, .int .u64 t'.fst, .int .i64 t'.vou, .int .i64 t'.posts, .slice q3 n3 z3] q1 q2 q3 (t'.cs.length * 6) (t'.ts.length * 2) (t'.hs.length * 4)) := Lib.hid ⟨HBB.out, HRg6.out, HGB.out, HQ1.out, HQ2.out, HQ3.out⟩
    have hc6 := fun j => cell_of_row _ g6 j _ _ _ HA.out.r
    go_wp2_with fail
    clear hc6
    go_loopw [8] (fun i wr => ∃ j : Nat, j ≤ n1 ∧ i = .int .i64 j ∧ ZAt w5 wr g6 #[.int .u64 t'.num, .string t'.loc, .int .i64 t'.iss, .slice q1 n1 z1, .slice q2 n2 z2, .int .u64 t'.prev, .int .u64 t'.org, .int .u64 t'.fst, .int .i64 t'.vou, .int .i64 t'.posts, .slice q3 n3 z3] q1 q2 q3 (t'.cs.length * 6) (t'.ts.length * 2) (t'.hs.length * 4)) (fun i _ => n1 - (intOf i).toNat)
    case atStart => exact ⟨0, Nat.zero_le _, rfl, HA.out⟩
    case round =>
      obtain ⟨j, hj, rfl, hrel⟩ := hrel
      have HA := Lib.hid hrel
      clear hrel
      have hc6 := fun j => cell_of_row _ g6 j _ _ _ HA.out.r
      have hnb : n1 ≤ 9223372036854775807 := by have h1 := HN1.out.2.1; have h2 := HN1.out.2.2; unfold maxLen at h2; omega
      by_cases hlt : j < n1
      · obtain ⟨cb, hcb⟩ := HZ1.out (by have := HN1.out.1; omega)
        subst hcb
        have th := (HA.out.c1).there (o := j * 6) (n := 6) (by have := HN1.out.1; have : (j + 1) * 6 ≤ t'.cs.length * 6 := Nat.mul_le_mul_right _ (by omega); omega)
        have h1n : ([.int .i64 0, .int .i64 0, .int .i64 0, .int .i64 0, .int .i64 0, .int .u64 0] : List Value).length = 6 := rfl
        have h1c : ([.int .i64 0, .int .i64 0, .int .i64 0, .int .i64 0, .int .i64 0, .int .u64 0] : List Value).all (·.oneCell') = true := rfl
        go_wp2_with fail
        go_roundw
        case rel => exact ⟨j + 1, by omega, by go_num, HA.out.set1 _ _⟩
        case measure => simp [intOf]; omega
      · obtain rfl : n1 = j := by omega
        clear hlt hc6
        have hc6 := fun j => cell_of_row _ g6 j _ _ _ HA.out.r
        go_wp2_with fail
        clear hc6
        go_loopw [9] (fun i wr => ∃ j : Nat, j ≤ n2 ∧ i = .int .i64 j ∧ ZAt w5 wr g6 #[.int .u64 t'.num, .string t'.loc, .int .i64 t'.iss, .slice q1 n1 z1, .slice q2 n2 z2, .int .u64 t'.prev, .int .u64 t'.org, .int .u64 t'.fst, .int .i64 t'.vou, .int .i64 t'.posts, .slice q3 n3 z3] q1 q2 q3 (t'.cs.length * 6) (t'.ts.length * 2) (t'.hs.length * 4)) (fun i _ => n2 - (intOf i).toNat)
        case atStart => exact ⟨0, Nat.zero_le _, rfl, HA.out⟩
        case round =>
          obtain ⟨j, hj, rfl, hrel⟩ := hrel
          have HA := Lib.hid hrel
          clear hrel
          have hc6 := fun j => cell_of_row _ g6 j _ _ _ HA.out.r
          have hnb : n2 ≤ 9223372036854775807 := by have h1 := HN2.out.2.1; have h2 := HN2.out.2.2; unfold maxLen at h2; omega
          by_cases hlt : j < n2
          · obtain ⟨cb, hcb⟩ := HZ2.out (by have := HN2.out.1; omega)
            subst hcb
            have th := (HA.out.c2).there (o := j * 2) (n := 2) (by have := HN2.out.1; have : (j + 1) * 2 ≤ t'.ts.length * 2 := Nat.mul_le_mul_right _ (by omega); omega)
            have h1n : ([.int .i64 0, .int .i64 0] : List Value).length = 2 := rfl
            have h1c : ([.int .i64 0, .int .i64 0] : List Value).all (·.oneCell') = true := rfl
            go_wp2_with fail
            go_roundw
            case rel => exact ⟨j + 1, by omega, by go_num, HA.out.set2 _ _⟩
            case measure => simp [intOf]; omega
          · obtain rfl : n2 = j := by omega
            clear hlt hc6
            have hc6 := fun j => cell_of_row _ g6 j _ _ _ HA.out.r
            go_wp2_with fail
            clear hc6
            go_loopw [10] (fun i wr => ∃ j : Nat, j ≤ n3 ∧ i = .int .i64 j ∧ ZAt w5 wr g6 #[.int .u64 t'.num, .string t'.loc, .int .i64 t'.iss, .slice q1 n1 z1, .slice q2 n2 z2, .int .u64 t'.prev, .int .u64 t'.org, .int .u64 t'.fst, .int .i64 t'.vou, .int .i64 t'.posts, .slice q3 n3 z3] q1 q2 q3 (t'.cs.length * 6) (t'.ts.length * 2) (t'.hs.length * 4)) (fun i _ => n3 - (intOf i).toNat)
            case atStart => exact ⟨0, Nat.zero_le _, rfl, HA.out⟩
            case round =>
              obtain ⟨j, hj, rfl, hrel⟩ := hrel
              have HA := Lib.hid hrel
              clear hrel
              have hc6 := fun j => cell_of_row _ g6 j _ _ _ HA.out.r
              have hnb : n3 ≤ 9223372036854775807 := by have h1 := HN3.out.2.1; have h2 := HN3.out.2.2; unfold maxLen at h2; omega
              by_cases hlt : j < n3
              · obtain ⟨cb, hcb⟩ := HZ3.out (by have := HN3.out.1; omega)
                subst hcb
                have th := (HA.out.c3).there (o := j * 4) (n := 4) (by have := HN3.out.1; have : (j + 1) * 4 ≤ t'.hs.length * 4 := Nat.mul_le_mul_right _ (by omega); omega)
                have h1n : ([.int .i64 0, .int .i64 0, .int .i64 0, .int .i64 0] : List Value).length = 4 := rfl
                have h1c : ([.int .i64 0, .int .i64 0, .int .i64 0, .int .i64 0] : List Value).all (·.oneCell') = true := rfl
                go_wp2_with fail
                go_roundw
                case rel => exact ⟨j + 1, by omega, by go_num, HA.out.set3 _ _⟩
                case measure => simp [intOf]; omega
              · obtain rfl : n3 = j := by omega
                clear hlt hc6
                have hc6 := fun j => cell_of_row _ g6 j _ _ _ HA.out.r
                have HTB := Lib.hid HA.out.b
                have HR7 := Lib.hid ((HTB.out.block _ (block_lt HR.out)).trans HR.out)
                have HS7 := Lib.hid ((HTB.out.block _ (block_lt HSR.out)).trans HSR.out)
                have HB := Lib.hid (HB5.out.trans (HTB.out.mono HB5.out.size))
                obtain ⟨f1, f2⟩ := row_loT 11 HR7.out rfl rfl
                have hcs := fun j => cell_of_row wr (w.heap.size + 1) j _ _ _ HS7.out
                go_upto_region 18 with (go_at_call 20; refine (HAT.out _ HB.out).mono ?_; rintro e wa ⟨va, rfl, hown, hba⟩; obtain ⟨ql, zl, rfl⟩ := rec_formT hown; have HLZ := Lib.hid (some_ofT hown); have HLR := Lib.hid (RowOf.of_own hown); have HLN := Lib.hid (own_capT hown); have HBA := Lib.hid (HTB.out.trans (hba.mono HTB.out.size)); have HGE : Hid (w5.heap.size ≤ wr.heap.size) := Lib.hid HTB.out.size; clear hown hba)
                clear f1 f2 hcs hc6
                go_wp2_with fail
                go_loopw [12] (fun i wz => ∃ j : Nat, j ≤ al.length ∧ i = .int .i64 j ∧ Below w5.heap.size w5 wz ∧ RowOf wr.heap.size wz ql 35 (al.length * 1)) (fun i _ => al.length - (intOf i).toNat)
                case atStart => exact ⟨0, Nat.zero_le _, rfl, HBA.out, HLR.out⟩
                case round =>
                  obtain ⟨j, hj, rfl, hbz, hrz⟩ := hrel
                  have HBZ := Lib.hid hbz; have HRZ := Lib.hid hrz
                  clear hbz hrz
                  have hnb : al.length ≤ 9223372036854775807 := by have h1 := HLN.out; unfold maxLen at h1; omega
                  by_cases hlt : j < al.length
                  · obtain ⟨cb, hcb⟩ := HLZ.out (by omega)
                    subst hcb
                    obtain ⟨hbl, cs, hrow, hsz⟩ := HRZ.out cb rfl
                    have kc : ∃ u, wr.cell? ⟨cb, j, none⟩ = some u := ⟨cs[j]'(by omega), (cell_of_row _ _ _ _ _ _ hrow).trans (Array.getElem?_eq_getElem _)⟩
                    obtain ⟨u, ku⟩ := kc
                    have kf := fun j => frozen_of_row wr cb j _ _ hrow
                    have HBL := Lib.hid hbl
                    clear hrow hsz hbl
                    go_wp2_with fail
                    go_roundw
                    case rel =>
                      refine ⟨j + 1, by omega, by go_num, HBZ.out.setCell (p := ⟨cb, j, none⟩) (Nat.le_trans HGE.out HBL.out) _, ?_⟩
                      have := HRZ.out.setCells cb j [.int .i64 0]
                      exact this
                    case measure => simp [intOf]; omega
                  · obtain rfl : al.length = j := by omega
                    clear hlt
                    have HR8 := Lib.hid ((HBZ.out.block _ (block_lt HR.out)).trans HR.out)
                    have HR9 := Lib.hid ((HBZ.out.block _ (block_lt HRg5.out)).trans HRg5.out)
                    obtain ⟨f1, f2⟩ := row_loT 11 HR8.out rfl rfl
                    obtain ⟨f3, f4⟩ := row_loT 11 HR9.out rfl rfl
                    have HB := Lib.hid (HB5.out.trans (HBZ.out.mono HB5.out.size))
                    go_wp2_with (first | (go_at_call 16; refine (rsame_any t t c x h ⟨a1, k1, b1⟩ ⟨a2, k2, b2⟩ ⟨a3, k3, b3⟩ _ (HTT.out.below HB.out) (HT5.out.below HBZ.out) true (by simp)).mono ?_; rintro e wq ⟨rfl, hbq⟩; have HBQ := Lib.hid (HB.out.trans (hbq.mono HB.out.size)); clear hbq) | (go_at_call 12; refine (HKN.out _).mono ?_; rintro e wk ⟨rfl, hbk⟩; have HBK := Lib.hid (HBQ.out.trans (hbk.mono HBQ.out.size)); clear hbk))
                    go_ret
                    exact ⟨rfl, HBK.out⟩
  · go_enter Try.func5, Try.ntmps5
    go_wp2_with (first | (go_at_call 11; refine (HM.out _ HB.out).mono ?_; rintro e wn ⟨rfl, hbn⟩; have HR := Lib.hid ((hbn.block _ (block_lt HR.out)).trans HR.out); have HSR := Lib.hid ((hbn.block _ (block_lt HSR.out)).trans HSR.out); have HB := Lib.hid (HB.out.trans (hbn.mono HB.out.size)); clear hbn; obtain ⟨f1, f2⟩ := row_loT 11 HR.out rfl rfl) | (go_at_call 12; refine (HKN.out _).mono ?_; rintro e wk ⟨rfl, hbk⟩; have HBK := Lib.hid (HB.out.trans (hbk.mono HB.out.size)); clear hbk))
    go_ret
    exact ⟨rfl, HBK.out⟩

set_option maxRecDepth 10000 in
theorem open_step {H : Type} {enc : TypeId × Value → H} {W : World} {held : Bool} {r : Reach} {b0 : Nat} {v : Value} {d : DataW H} {ps : List MemPlace} (hv : Value.okWide Try.prog W r b0 37 v) (h : DataW.Trod enc Try.prog W 0 (fun _ => true) held 37 v d ps) :
    ∃ co on tq wi : Int, v = .agg #[.int .i64 co, .int .i64 on, .int .i64 tq, .int .u64 wi] ∧ I64 co ∧ I64 on ∧ U64 wi := by
  obtain ⟨cs, rfl, hc⟩ := open_leaves (n := 4) (ls := [.i64, .i64, .i64, .u64].map .int) Try.underlying37 (by kernel_rfl) hv h
  obtain ⟨zs, hz, rfl⟩ := ints_of_all hc
  obtain ⟨z0, r0, rfl, w0, h⟩ := hz.consT
  obtain ⟨z1, r1, rfl, w1, h⟩ := h.consT
  obtain ⟨z2, r2, rfl, w2, h⟩ := h.consT
  obtain ⟨z3, r3, rfl, w3, h⟩ := h.consT
  obtain rfl := h.nilT
  exact ⟨z0, z1, z2, z3, rfl, i64_wfT w0, i64_wfT w1, u64_wfT w3⟩
set_option maxRecDepth 100000 in
theorem lifted (os : Os) (started : os.Started) (H : Type) (enc : TypeId × Value → H) :
    ReturnsInHanded {} Try.checked os 5 .any (Rows.ticketApartSpec.pre6 enc Try.prog Try.f5 Rows.ticketApartRow.domain false) (Rows.ticketApartSpec.post enc Try.prog Try.f5 false true false false) := by
  refine returnsInHanded_of_change (C := Try.checked) own started (by kernel_rfl) Try.func5
    (ChangeSpec.witness6 (enc := enc) (C := Try.checked) false ⟨#[], #[.agg #[.int .u64 0, .string ⟨#[]⟩, .int .i64 0, .slice none 0 0, .slice none 0 0, .int .u64 0, .int .u64 0, .int .u64 0, .int .i64 0, .int .i64 0, .slice none 0 0], .agg #[.int .i64 0, .int .i64 0, .int .i64 0, .int .u64 0]], []⟩ 8 (by kernel_rfl) (by kernel_rfl) (by kernel_rfl) (by kernel_rfl)) ?_
  intro W base args ds gs before hval0 hW hcnd _
  have hval : ∀ (j : Nat) t v, Try.f5.params[j]? = some t → args[j]? = some v → Value.okWide Try.prog W .any base t v := hval0
  have hW' := hW
  obtain ⟨p, q, hA0, hV, rfl, hfz, hnd⟩ := hW
  have hA : DataW.TrodAll enc Try.prog W 0 (fun _ => true) true Try.f5.params.toList args.toList ds p := hA0
  rw [Try.params5] at hA hval
  obtain ⟨v0, vs0, d0, ds0, p0, q0, hargs, rfl, rfl, h0, r0⟩ := trodAll_cons hA
  obtain ⟨v1, vs1, d1, ds1, p1, q1, rfl, rfl, rfl, h1, r1⟩ := trodAll_cons r0
  obtain ⟨rfl, rfl, rfl⟩ := trodAll_nil r1
  obtain rfl : args = #[v0, v1] := by cases args; simp_all
  obtain ⟨t, c, x, h, rfl, hts⟩ := open_ticket (hval 0 _ v0 rfl rfl) h0
  obtain ⟨co, on, tq, wi, rfl, hco, hon, hwi⟩ := open_step (hval 1 _ v1 rfl rfl) h1
  clear hA0 hval0
  refine (walk t c x h co on tq wi hco hon hwi W hts).mono fun e W' ⟨he, hg⟩ => ?_
  subst he
  exact ⟨_, rfl, post_law laidOut rfl hW' ⟨rfl, rfl, rfl⟩ (by kernel_rfl) hg Try.underlying4 rfl⟩

theorem proved : Rows.TicketApartSaid :=
  OpenClaim.holds_of_wide 5 Try.f5 rfl rfl rfl rfl rfl rfl rfl ⟨rfl, rfl, rfl, rfl, rfl⟩ rfl rfl rfl rfl rfl (by kernel_rfl) Try.func5 (by kernel_rfl)
    (of_decide_eq_true (by kernel_rfl)) (by unfold Func.isWrapper; first | (rw [if_pos (by decide +kernel)]; kernel_rfl) | (rw [if_neg (by decide +kernel)]; exact ⟨rfl, rfl⟩))
    (fun os started H enc _ => lifted os started H enc)
#print axioms proved
end Go.Proofs.Ytflkjlepldhbhaa.ticketApart
