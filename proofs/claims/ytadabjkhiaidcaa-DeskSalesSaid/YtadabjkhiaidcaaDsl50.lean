/- Contract: the reference's Issue (15). -/
import Derived.Test.YtadabjkhiaidcaaDsl49
import Derived.Test.YtadabjkhiaidcaaDsl34
import Derived.Test.YtadabjkhiaidcaaDsl26

set_option linter.unusedVariables false
set_option linter.unusedSimpArgs false
namespace Go.Proofs.Ytadabjkhiaidcaa
open Go.ChangeShapes Go.WideShapes Go.ChangeAt Go.RowKit Go.Deep

attribute [local go_sem ↓] Tk_execLoad Tk_execStore Cp_execLoad Cp_execStore

attribute [local go_sem] Tk_load Tk_store Cp_load Cp_store loL_drew okL_drew there_sc World.there_drew

attribute [local irreducible] Dk.rowB Dk.taxedB Dk.numsB Dk.goesB Dk.tksI

/-- a ticket of the reference's sale: its coupons, its taxes own rows -/
structure TR (base : Nat) (W : World) (y : Tkr) : Prop where
  c : W.ownsRow base 37 6 (.slice y.c.p y.c.n y.c.c) y.t.cs.length (encL Cpn.cells y.t.cs)
  x : W.ownsRow base 56 2 (.slice y.x.p y.x.n y.x.c) y.t.ts.length (encL Txx.cells y.t.ts)
  h : y.t.hs = [] ∧ y.h = ⟨none, 0, 0⟩
  wf : y.t.wf
theorem TR.below {base : Nat} {W W' : World} {y : Tkr} (h : TR base W y) (hb : Below W.heap.size W W') : TR base W' y := ⟨recs_below h.c hb, recs_below h.x hb, h.h, h.wf⟩
theorem TR.grown {base e n m : Nat} {W W' : World} {y : Tkr} {v : Value} {xs : List Value} (h : TR base W y) (ho : W.ownsRow base e n v m xs) (hg : W.grownBy W' v.ownBlock) (h1 : 37 ≠ e) (h2 : 56 ≠ e) : TR base W' y :=
  ⟨own_apartT h.c ho hg h1, own_apartT h.x ho hg h2, h.h, h.wf⟩
theorem TR.tn {base : Nat} {W : World} {y : Tkr} (h : TR base W y) : TN base W y := by
  refine TN.of ⟨LS.of_own h.c Cpn.cells_length (by decide), LS.of_own h.x Txx.cells_length (by decide), ?_, h.wf⟩ (fun b hb => (recs_base h.c hb).1) (fun b hb => (recs_base h.x hb).1) ?_
  · rw [h.h.1, h.h.2]; exact LS.nil W
  · rw [h.h.2]; intro b hb; cases hb
section
attribute [local go_sem ↓] Tk_execLoad Tk_execStore

set_option maxRecDepth 8000 in
set_option maxHeartbeats 4000000 in
theorem rtaxB_any (t : Tk) (c x h : Sl) (w : World) (hl : LS Txx.cells 2 w (.slice x.p x.n x.c) t.ts) (hb : ∀ y ∈ t.ts, 0 ≤ y.am ∧ y.am ≤ 1000000000000) (hk : t.ts.length ≤ 1000) :
    Calls Try.prog 38 #[.agg #[.int .u64 t.num, .string t.loc, .int .i64 t.iss, .slice c.p c.n c.c, .slice x.p x.n x.c, .int .u64 t.prev, .int .u64 t.org, .int .u64 t.fst, .int .i64 t.vou, .int .i64 t.posts, .slice h.p h.n h.c]] w fun e w' => e = .returned (.int .i64 (Tkt.taxI t.ts)) ∧ Below w.heap.size w w' := by
  obtain ⟨pl, nl, cl⟩ := x
  simp only at *
  have HTS := Lib.hid hl
  have HNL := Lib.hid hl.length
  have HMB := Lib.hid hb
  have HKL := Lib.hid hk
  have hn : nl ≤ 9223372036854775807 := by have h1 := HNL.out.2; unfold maxLen at h1; (try simp only at h1); omega
  have HB0 := Lib.hid ((Below.refl w.heap.size w).alloc (Nat.le_refl _) (.cells #[.int .u64 t.num, .string t.loc, .int .i64 t.iss, .slice c.p c.n c.c, .slice pl nl cl, .int .u64 t.prev, .int .u64 t.org, .int .u64 t.fst, .int .i64 t.vou, .int .i64 t.posts, .slice h.p h.n h.c] 45 (0, 0)))
  have HR0 := Lib.hid (new_rowW w (.cells #[.int .u64 t.num, .string t.loc, .int .i64 t.iss, .slice c.p c.n c.c, .slice pl nl cl, .int .u64 t.prev, .int .u64 t.org, .int .u64 t.fst, .int .i64 t.vou, .int .i64 t.posts, .slice h.p h.n h.c] 45 (0, 0)) _ rfl)
  clear hl hb hk
  have hcs := fun j => cell_of_row _ w.heap.size j _ _ _ HR0.out
  go_enter Try.func38, Try.ntmps38
  go_wp2_with fail
  clear hcs
  go_loopw [3, 4] (fun sm i wr => ∃ k : Nat, k ≤ nl ∧ i = .int .i64 k ∧ sm = .int .i64 (Tkt.taxI (t.ts.take k)) ∧ Below w.heap.size w wr ∧ wr.heap[w.heap.size]? = some (.cells #[.int .u64 t.num, .string t.loc, .int .i64 t.iss, .slice c.p c.n c.c, .slice pl nl cl, .int .u64 t.prev, .int .u64 t.org, .int .u64 t.fst, .int .i64 t.vou, .int .i64 t.posts, .slice h.p h.n h.c] 45 (0, 0))) (fun _ i _ => nl - (intOf i).toNat)
  case atStart => exact ⟨0, Nat.zero_le _, rfl, by rw [List.take_zero]; rfl, HB0.out, HR0.out⟩
  case round =>
    obtain ⟨k, hk, rfl, rfl, hb, hrow⟩ := hrel
    have HB := Lib.hid hb
    have HR := Lib.hid hrow
    clear hb hrow HB0 HR0
    by_cases hlt : k < nl
    · obtain ⟨y, hy⟩ : ∃ y, t.ts[k]? = some y := ⟨_, List.getElem?_eq_getElem (by have := HNL.out; (try simp only at this); omega)⟩
      have HY := Lib.hid hy
      obtain ⟨S, hS⟩ : ∃ S, Tkt.taxI (t.ts.take k) = S := ⟨_, rfl⟩
      have HS := Lib.hid hS
      have hS0 : 0 ≤ S := by rw [← hS]; exact (Tkt.taxI_bound (t.ts.take k) (fun y hy => HMB.out y (List.mem_of_mem_take hy))).1
      have hS1 : S ≤ 1000000000000000 := by
        rw [← hS]
        have h1 := (Tkt.taxI_bound (t.ts.take k) (fun y hy => HMB.out y (List.mem_of_mem_take hy))).2
        have h2 : (t.ts.take k).length ≤ t.ts.length := by rw [List.length_take]; omega
        have := HKL.out
        omega
      rw [hS]
      have hv := HMB.out y (List.mem_of_getElem? hy)
      have hv0 := hv.1
      have hv1 := hv.2
      clear hv hy hS
      obtain ⟨eb, ef, hp, -, hr⟩ := (HTS.out.below HB.out).at HY.out
      try simp only at hp
      have hc4 : wr.cell? ⟨w.heap.size, 4, none⟩ = some (.slice (some ⟨eb, ef, none⟩) nl cl) := by rw [← hp]; exact cell_of_row _ w.heap.size 4 _ _ _ HR.out
      have hva : wr.cell? ⟨eb, ef + k * 2 + 1, none⟩ = some (.int .i64 y.am) := hr 1 _ rfl
      clear hp hr
      go_wp2_with fail
      go_roundw
      case rel => exact ⟨k + 1, by omega, by go_num, by rw [Tkt.taxI_snoc HY.out, HS.out], HB.out, HR.out⟩
      case measure => simp [intOf]; omega
    · have hcs := fun j => cell_of_row _ w.heap.size j _ _ _ HR.out
      have hkn : k = nl := by omega
      subst hkn
      have hlen : t.ts.take k = t.ts := List.take_of_length_le (by have := HNL.out; (try simp only at this); omega)
      rw [hlen]
      clear hlen
      go_wp2_with fail
      go_ret
      exact ⟨rfl, HB.out⟩
end
set_option maxRecDepth 8000 in
set_option maxHeartbeats 2000000 in
theorem rissue_bad (day : Int) (loc : ByteArray) (fl : List Cpn) (ts : List Txx) (l : List Int) (p q r : Option Addr) (n cap n2 c2 n3 c3 : Nat) (w : World) (hloc : loc.size ≤ maxLen) (hf : LS Cpn.cells 6 w (.slice p n cap) fl) (hx : LS Txx.cells 2 w (.slice q n2 c2) ts) (hl : LS u64C 1 w (.slice r n3 c3) l) (hu : ∀ m ∈ l, U64 m) (hne : Dk.errI day loc fl ts l ≠ 0) : Calls Try.prog 8 #[.int .i64 day, .string loc, .slice p n cap, .slice q n2 c2, .slice r n3 c3] w fun e w' => e = .returned (.tuple #[.slice none 0 0, .slice none 0 0, .int .i64 (Dk.errI day loc fl ts l)]) ∧ Below w.heap.size w w' := by
  have HF := Lib.hid hf; have HX := Lib.hid hx; have HL := Lib.hid hl; have HUU := Lib.hid hu
  have HROW := Lib.hid (fun W hW => rflights_any fl p n cap 12 W (hf.below hW))
  have HTAX := Lib.hid (fun W hW => rtaxes15_any ts q n2 c2 W (hx.below hW))
  have HLOC := Lib.hid (fun W => refLocator_any loc W hloc)
  have HNEED := Lib.hid (fun W => rneed_any (n : Int) W)
  have HNUM := Lib.hid (fun W hW => rnumbers_any l r n3 c3 W (hl.below hW) hu)
  have HWI := Lib.hid (fun W => rday15_any day W)
  have HGQ := Lib.hid (fun W hW => ron_any fl p n cap day W (hf.below hW))
  have HNF := Lib.hid hf.length.1; have HNL := Lib.hid hl.length.1; have HNX := Lib.hid hx.length.1
  have hl3 : n3 ≤ 9223372036854775807 := by have h1 := hl.length; unfold maxLen at h1; omega
  have hlf : n ≤ 9223372036854775807 := by have h1 := hf.length; unfold maxLen at h1; omega
  clear hf hx hl hu
  obtain ⟨b1, h1⟩ : ∃ b, Dk.rowB fl 12 = b := ⟨_, rfl⟩
  obtain ⟨b2, h2⟩ : ∃ b, Dk.taxedB ts = b := ⟨_, rfl⟩
  obtain ⟨b3, h3⟩ : ∃ b, Num.loc loc.data.toList = b := ⟨_, rfl⟩
  obtain ⟨b4, h4⟩ : ∃ b, decide ((n3 : Int) = Dk.need n) = b := ⟨_, rfl⟩
  obtain ⟨b5, h5⟩ : ∃ b, Dk.numsB l = b := ⟨_, rfl⟩
  obtain ⟨b6, h6⟩ : ∃ b, Tkt.dayB day = b := ⟨_, rfl⟩
  obtain ⟨b7, h7⟩ : ∃ b, Dk.goesB fl day = b := ⟨_, rfl⟩
  obtain ⟨E, hE⟩ : ∃ E, Dk.errI day loc fl ts l = E := ⟨_, rfl⟩
  have HEV : Hid (E = if (b1 && b2 && b3 && b4 && b5 && b6) = true then (if b7 = true then 0 else 15) else 2) := Lib.hid (by rw [← hE, ← h1, ← h2, ← h3, ← h4, ← h5, ← h6, ← h7, show n3 = l.length from HNL.out, show n = fl.length from HNF.out]; rfl)
  rw [hE] at hne ⊢
  have HNE := Lib.hid hne
  clear hne
  rw [h1] at HROW
  rw [h2] at HTAX
  rw [h3] at HLOC
  rw [h5] at HNUM
  rw [h6] at HWI
  rw [h7] at HGQ
  obtain ⟨nd, hnd⟩ : ∃ z, Dk.need (n : Int) = z := ⟨_, rfl⟩
  rw [hnd] at h4 HNEED
  have hb4 : ((n3 : Int) != nd) = !b4 := by rw [← h4]; rfl
  clear hE h1 h2 h3 h4 h5 h6 h7 hnd
  have HB := Lib.hid (Below.refl w.heap.size w)
  go_enter Try.func8, Try.ntmps8
  cases b1
  · obtain rfl : E = 2 := by rw [HEV.out]; (first | rfl | simp)
    go_wp2_with (first | (go_at_call 31; refine (HROW.out _ HB.out).mono ?_; rintro e wn ⟨rfl, hbn⟩; have HB := Lib.hid (HB.out.trans (hbn.mono HB.out.size)); clear hbn) | (go_at_call 32; refine (HTAX.out _ HB.out).mono ?_; rintro e wn ⟨rfl, hbn⟩; have HB := Lib.hid (HB.out.trans (hbn.mono HB.out.size)); clear hbn) | (go_at_call 33; refine (HLOC.out _).mono ?_; rintro e wn ⟨rfl, rfl⟩) | (go_at_call 12; refine (HNEED.out _).mono ?_; rintro e wn ⟨rfl, rfl⟩) | (go_at_call 34; refine (HNUM.out _ HB.out).mono ?_; rintro e wn ⟨rfl, hbn⟩; have HB := Lib.hid (HB.out.trans (hbn.mono HB.out.size)); clear hbn) | (go_at_call 35; refine (HWI.out _).mono ?_; rintro e wn ⟨rfl, rfl⟩) | (go_at_call 36; refine (HGQ.out _ HB.out).mono ?_; rintro e wn ⟨rfl, hbn⟩; have HB := Lib.hid (HB.out.trans (hbn.mono HB.out.size)); clear hbn))
    go_ret3
    exact ⟨rfl, HB.out⟩
  · cases b2
    · obtain rfl : E = 2 := by rw [HEV.out]; (first | rfl | simp)
      go_wp2_with (first | (go_at_call 31; refine (HROW.out _ HB.out).mono ?_; rintro e wn ⟨rfl, hbn⟩; have HB := Lib.hid (HB.out.trans (hbn.mono HB.out.size)); clear hbn) | (go_at_call 32; refine (HTAX.out _ HB.out).mono ?_; rintro e wn ⟨rfl, hbn⟩; have HB := Lib.hid (HB.out.trans (hbn.mono HB.out.size)); clear hbn) | (go_at_call 33; refine (HLOC.out _).mono ?_; rintro e wn ⟨rfl, rfl⟩) | (go_at_call 12; refine (HNEED.out _).mono ?_; rintro e wn ⟨rfl, rfl⟩) | (go_at_call 34; refine (HNUM.out _ HB.out).mono ?_; rintro e wn ⟨rfl, hbn⟩; have HB := Lib.hid (HB.out.trans (hbn.mono HB.out.size)); clear hbn) | (go_at_call 35; refine (HWI.out _).mono ?_; rintro e wn ⟨rfl, rfl⟩) | (go_at_call 36; refine (HGQ.out _ HB.out).mono ?_; rintro e wn ⟨rfl, hbn⟩; have HB := Lib.hid (HB.out.trans (hbn.mono HB.out.size)); clear hbn))
      go_ret3
      exact ⟨rfl, HB.out⟩
    · cases b3
      · obtain rfl : E = 2 := by rw [HEV.out]; (first | rfl | simp)
        go_wp2_with (first | (go_at_call 31; refine (HROW.out _ HB.out).mono ?_; rintro e wn ⟨rfl, hbn⟩; have HB := Lib.hid (HB.out.trans (hbn.mono HB.out.size)); clear hbn) | (go_at_call 32; refine (HTAX.out _ HB.out).mono ?_; rintro e wn ⟨rfl, hbn⟩; have HB := Lib.hid (HB.out.trans (hbn.mono HB.out.size)); clear hbn) | (go_at_call 33; refine (HLOC.out _).mono ?_; rintro e wn ⟨rfl, rfl⟩) | (go_at_call 12; refine (HNEED.out _).mono ?_; rintro e wn ⟨rfl, rfl⟩) | (go_at_call 34; refine (HNUM.out _ HB.out).mono ?_; rintro e wn ⟨rfl, hbn⟩; have HB := Lib.hid (HB.out.trans (hbn.mono HB.out.size)); clear hbn) | (go_at_call 35; refine (HWI.out _).mono ?_; rintro e wn ⟨rfl, rfl⟩) | (go_at_call 36; refine (HGQ.out _ HB.out).mono ?_; rintro e wn ⟨rfl, hbn⟩; have HB := Lib.hid (HB.out.trans (hbn.mono HB.out.size)); clear hbn))
        go_ret3
        exact ⟨rfl, HB.out⟩
      · cases b4
        · obtain rfl : E = 2 := by rw [HEV.out]; (first | rfl | simp)
          go_wp2_with (first | (go_at_call 31; refine (HROW.out _ HB.out).mono ?_; rintro e wn ⟨rfl, hbn⟩; have HB := Lib.hid (HB.out.trans (hbn.mono HB.out.size)); clear hbn) | (go_at_call 32; refine (HTAX.out _ HB.out).mono ?_; rintro e wn ⟨rfl, hbn⟩; have HB := Lib.hid (HB.out.trans (hbn.mono HB.out.size)); clear hbn) | (go_at_call 33; refine (HLOC.out _).mono ?_; rintro e wn ⟨rfl, rfl⟩) | (go_at_call 12; refine (HNEED.out _).mono ?_; rintro e wn ⟨rfl, rfl⟩) | (go_at_call 34; refine (HNUM.out _ HB.out).mono ?_; rintro e wn ⟨rfl, hbn⟩; have HB := Lib.hid (HB.out.trans (hbn.mono HB.out.size)); clear hbn) | (go_at_call 35; refine (HWI.out _).mono ?_; rintro e wn ⟨rfl, rfl⟩) | (go_at_call 36; refine (HGQ.out _ HB.out).mono ?_; rintro e wn ⟨rfl, hbn⟩; have HB := Lib.hid (HB.out.trans (hbn.mono HB.out.size)); clear hbn))
          go_ret3
          exact ⟨rfl, HB.out⟩
        · cases b5
          · obtain rfl : E = 2 := by rw [HEV.out]; (first | rfl | simp)
            go_wp2_with (first | (go_at_call 31; refine (HROW.out _ HB.out).mono ?_; rintro e wn ⟨rfl, hbn⟩; have HB := Lib.hid (HB.out.trans (hbn.mono HB.out.size)); clear hbn) | (go_at_call 32; refine (HTAX.out _ HB.out).mono ?_; rintro e wn ⟨rfl, hbn⟩; have HB := Lib.hid (HB.out.trans (hbn.mono HB.out.size)); clear hbn) | (go_at_call 33; refine (HLOC.out _).mono ?_; rintro e wn ⟨rfl, rfl⟩) | (go_at_call 12; refine (HNEED.out _).mono ?_; rintro e wn ⟨rfl, rfl⟩) | (go_at_call 34; refine (HNUM.out _ HB.out).mono ?_; rintro e wn ⟨rfl, hbn⟩; have HB := Lib.hid (HB.out.trans (hbn.mono HB.out.size)); clear hbn) | (go_at_call 35; refine (HWI.out _).mono ?_; rintro e wn ⟨rfl, rfl⟩) | (go_at_call 36; refine (HGQ.out _ HB.out).mono ?_; rintro e wn ⟨rfl, hbn⟩; have HB := Lib.hid (HB.out.trans (hbn.mono HB.out.size)); clear hbn))
            go_ret3
            exact ⟨rfl, HB.out⟩
          · cases b6
            · obtain rfl : E = 2 := by rw [HEV.out]; (first | rfl | simp)
              go_wp2_with (first | (go_at_call 31; refine (HROW.out _ HB.out).mono ?_; rintro e wn ⟨rfl, hbn⟩; have HB := Lib.hid (HB.out.trans (hbn.mono HB.out.size)); clear hbn) | (go_at_call 32; refine (HTAX.out _ HB.out).mono ?_; rintro e wn ⟨rfl, hbn⟩; have HB := Lib.hid (HB.out.trans (hbn.mono HB.out.size)); clear hbn) | (go_at_call 33; refine (HLOC.out _).mono ?_; rintro e wn ⟨rfl, rfl⟩) | (go_at_call 12; refine (HNEED.out _).mono ?_; rintro e wn ⟨rfl, rfl⟩) | (go_at_call 34; refine (HNUM.out _ HB.out).mono ?_; rintro e wn ⟨rfl, hbn⟩; have HB := Lib.hid (HB.out.trans (hbn.mono HB.out.size)); clear hbn) | (go_at_call 35; refine (HWI.out _).mono ?_; rintro e wn ⟨rfl, rfl⟩) | (go_at_call 36; refine (HGQ.out _ HB.out).mono ?_; rintro e wn ⟨rfl, hbn⟩; have HB := Lib.hid (HB.out.trans (hbn.mono HB.out.size)); clear hbn))
              go_ret3
              exact ⟨rfl, HB.out⟩
            · cases b7
              · obtain rfl : E = 15 := by rw [HEV.out]; rfl
                go_wp2_with (first | (go_at_call 31; refine (HROW.out _ HB.out).mono ?_; rintro e wn ⟨rfl, hbn⟩; have HB := Lib.hid (HB.out.trans (hbn.mono HB.out.size)); clear hbn) | (go_at_call 32; refine (HTAX.out _ HB.out).mono ?_; rintro e wn ⟨rfl, hbn⟩; have HB := Lib.hid (HB.out.trans (hbn.mono HB.out.size)); clear hbn) | (go_at_call 33; refine (HLOC.out _).mono ?_; rintro e wn ⟨rfl, rfl⟩) | (go_at_call 12; refine (HNEED.out _).mono ?_; rintro e wn ⟨rfl, rfl⟩) | (go_at_call 34; refine (HNUM.out _ HB.out).mono ?_; rintro e wn ⟨rfl, hbn⟩; have HB := Lib.hid (HB.out.trans (hbn.mono HB.out.size)); clear hbn) | (go_at_call 35; refine (HWI.out _).mono ?_; rintro e wn ⟨rfl, rfl⟩) | (go_at_call 36; refine (HGQ.out _ HB.out).mono ?_; rintro e wn ⟨rfl, hbn⟩; have HB := Lib.hid (HB.out.trans (hbn.mono HB.out.size)); clear hbn))
                go_ret3
                exact ⟨rfl, HB.out⟩
              · exact absurd (by rw [HEV.out]; rfl) HNE.out


set_option maxRecDepth 8000 in
set_option maxHeartbeats 2000000 in
theorem rissue_ok (day : Int) (loc : ByteArray) (fl : List Cpn) (ts : List Txx) (l : List Int) (p q r : Option Addr) (n cap n2 c2 n3 c3 : Nat) (w : World) (hloc : loc.size ≤ maxLen) (hf : LS Cpn.cells 6 w (.slice p n cap) fl) (hx : LS Txx.cells 2 w (.slice q n2 c2) ts) (hl : LS u64C 1 w (.slice r n3 c3) l) (hu : ∀ m ∈ l, U64 m) (hE : Dk.errI day loc fl ts l = 0) : Calls Try.prog 8 #[.int .i64 day, .string loc, .slice p n cap, .slice q n2 c2, .slice r n3 c3] w fun e w' => Below w.heap.size w w' ∧ ∃ (v1 v2 : Value) (rs : List Tkr), e = .returned (.tuple #[v1, v2, .int .i64 0]) ∧ rs.map Tkr.t = Dk.tksI day loc fl ts (l.headD 0) 0 l ∧ TLn w.heap.size w' v1 rs ∧ w'.ownsRow w.heap.size 59 10 v2 l.length (encL Pst.cells ((Dk.tksI day loc fl ts (l.headD 0) 0 l).map (Dk.poI day))) := by
  have HBI := Lib.hid (Dk.errI_bits hE)
  have hBI := HBI.out
  obtain ⟨h1, h2, h3, h4, h5, h6, h7⟩ := hBI
  have HF := Lib.hid hf; have HX := Lib.hid hx; have HL := Lib.hid hl; have HUU := Lib.hid hu
  have HROW := Lib.hid (fun W hW => rflights_any fl p n cap 12 W (hf.below hW))
  have HTAX := Lib.hid (fun W hW => rtaxes15_any ts q n2 c2 W (hx.below hW))
  have HLOC := Lib.hid (fun W => refLocator_any loc W hloc)
  have HNEED := Lib.hid (fun W => rneed_any (n : Int) W)
  have HNUM := Lib.hid (fun W hW => rnumbers_any l r n3 c3 W (hl.below hW) hu)
  have HWI := Lib.hid (fun W => rday15_any day W)
  have HGQ := Lib.hid (fun W hW => ron_any fl p n cap day W (hf.below hW))
  have HNF := Lib.hid hf.length.1; have HNL := Lib.hid hl.length.1; have HNX := Lib.hid hx.length.1
  have hl3 : n3 ≤ 9223372036854775807 := by have h1 := hl.length; unfold maxLen at h1; omega
  have hlf : n ≤ 9223372036854775807 := by have h1 := hf.length; unfold maxLen at h1; omega
  rw [h1] at HROW
  rw [h2] at HTAX
  rw [h3] at HLOC
  rw [h5] at HNUM
  rw [h6] at HWI
  rw [h7] at HGQ
  rw [← HNL.out, ← HNF.out] at h4
  rw [← h4] at HNEED
  have hn4 : n3 = (n + 3) / 4 ∧ 1 ≤ n ∧ n ≤ 12 := by
    have hr := Dk.row_len h1
    rw [← HNF.out] at hr
    have hk : 1 ≤ n ∧ n ≤ 12 := by omega
    unfold Dk.need at h4
    refine ⟨?_, hk⟩
    rw [if_pos (by omega)] at h4
    omega
  have HN4 := Lib.hid hn4
  clear hn4
  have H1 := Lib.hid h1; have H7 := Lib.hid h7; have H2 := Lib.hid h2
  have HDY : Hid (0 ≤ day ∧ day ≤ 1000000) := Lib.hid (by unfold Tkt.dayB at h6; simpa using h6)
  clear hf hx hl hu h1 h2 h3 h4 h5 h6 h7 hE
  have HB := Lib.hid (Below.refl w.heap.size w)
  go_enter Try.func8, Try.ntmps8
  go_wp2_with (first | (go_at_call 31; refine (HROW.out _ HB.out).mono ?_; rintro e wn ⟨rfl, hbn⟩; have HB := Lib.hid (HB.out.trans (hbn.mono HB.out.size)); clear hbn) | (go_at_call 32; refine (HTAX.out _ HB.out).mono ?_; rintro e wn ⟨rfl, hbn⟩; have HB := Lib.hid (HB.out.trans (hbn.mono HB.out.size)); clear hbn) | (go_at_call 33; refine (HLOC.out _).mono ?_; rintro e wn ⟨rfl, rfl⟩) | (go_at_call 12; refine (HNEED.out _).mono ?_; rintro e wn ⟨rfl, rfl⟩) | (go_at_call 34; refine (HNUM.out _ HB.out).mono ?_; rintro e wn ⟨rfl, hbn⟩; have HB := Lib.hid (HB.out.trans (hbn.mono HB.out.size)); clear hbn) | (go_at_call 35; refine (HWI.out _).mono ?_; rintro e wn ⟨rfl, rfl⟩) | (go_at_call 36; refine (HGQ.out _ HB.out).mono ?_; rintro e wn ⟨rfl, hbn⟩; have HB := Lib.hid (HB.out.trans (hbn.mono HB.out.size)); clear hbn))
  clear HROW HTAX HLOC HNEED HNUM HWI HGQ
  obtain ⟨z, hz⟩ : ∃ z, l[0]? = some z := ⟨_, List.getElem?_eq_getElem (by have := HN4.out; have := HNL.out; omega)⟩
  have HZ2 : Hid (l.headD 0 = z) := Lib.hid (by cases l with | nil => cases hz | cons a r => exact Option.some.inj hz)
  have HZ := Lib.hid hz
  clear hz
  generalize wn = w2 at *
  go_loopw [13, 14, 15] (fun ov pv i wr => ∃ (k : Nat) (qo qp : Option Addr) (co cp : Nat) (rs : List Tkr), k ≤ n3 ∧ ov = .slice qo k co ∧ pv = .slice qp k cp ∧ i = .int .i64 k ∧ wr.ownsRow w.heap.size 45 11 (.slice qo k co) k (encL Tkr.cells rs) ∧ rs.map Tkr.t = Dk.tksI day loc fl ts z 0 (l.take k) ∧ (∀ y ∈ rs, TR w.heap.size wr y) ∧ wr.ownsRow w.heap.size 59 10 (.slice qp k cp) k (encL Pst.cells ((Dk.tksI day loc fl ts z 0 (l.take k)).map (Dk.poI day))) ∧ Below w.heap.size w wr) (fun _ _ i _ => n3 - (intOf i).toNat)
  case atStart => exact ⟨0, none, none, 0, 0, [], Nat.zero_le _, rfl, rfl, rfl, World.ownsRow_nil _ _ _ _, (by rw [List.take_zero]; unfold Dk.tksI; rfl), (by simp), (by rw [List.take_zero]; unfold Dk.tksI; exact World.ownsRow_nil _ _ _ _), HB.out⟩
  case round =>
    obtain ⟨k, qo, qp, co, cp, rs, hk, rfl, rfl, rfl, ho, hrs, hti, hp, hb⟩ := hrel
    replace HB := Lib.hid hb
    have HO := Lib.hid ho; have HRS := Lib.hid hrs; have HTI := Lib.hid hti; have HPO := Lib.hid hp
    clear hb ho hrs hti hp
    by_cases hlt : k < n3
    · obtain ⟨y, hy⟩ : ∃ y, l[k]? = some y := ⟨_, List.getElem?_eq_getElem (by have := HNL.out; omega)⟩
      have HY := Lib.hid hy
      have HYU := Lib.hid (HUU.out y (List.mem_of_getElem? hy))
      have HZU := Lib.hid (HUU.out z (List.mem_of_getElem? HZ.out))
      obtain ⟨eb, ef, hp, hbl, hr⟩ := (HL.out.below HB.out).at hy
      obtain ⟨eb2, ef2, hp2, -, hr2⟩ := (HL.out.below HB.out).at HZ.out
      subst hp
      injection hp2 with hp2
      injection hp2 with hp2 hp3 _
      subst hp2 hp3
      have hc : wr.cell? ⟨eb, ef + k, none⟩ = some (.int .u64 y) := by have := hr 0 _ rfl; rwa [Nat.mul_one] at this
      have hc0 : wr.cell? ⟨eb, ef, none⟩ = some (.int .u64 z) := by have := hr2 0 _ rfl; simpa using this
      clear hr hr2 hy
      have hn0 : 0 < n3 := by omega
      have hk3 : (k : Int) ≤ 2 := by have := HN4.out; omega
      have HK3 : Hid (k ≤ 2) := Lib.hid (by have := HN4.out; omega)
      go_upto_region 10 with fail
      refine wp_region_G (C := fun W => W.cell? ⟨eb, ef + k, none⟩ = some (.int .u64 y) ∧ W.cell? ⟨eb, ef, none⟩ = some (.int .u64 z)) (s0 := 15) (by kernel_rfl) ?_
      have hHeld : wr.drew.cell? ⟨eb, ef + k, none⟩ = some (.int .u64 y) ∧ wr.drew.cell? ⟨eb, ef, none⟩ = some (.int .u64 z) := ⟨hc, hc0⟩
      have hbn := (Below.refl wr.heap.size wr).drew
      have hbl : eb < wr.drew.heap.size := hbl
      replace HB := Lib.hid (HB.out.trans (hbn.mono HB.out.size))
      replace HO := Lib.hid (recs_below HO.out hbn)
      replace HTI := Lib.hid (fun x hx => (HTI.out x hx).below hbn)
      replace HPO := Lib.hid (recs_below HPO.out hbn)
      clear hbn hc hc0
      generalize wr.drew = wd at *
      have tc := there_newT (w := wd) (zs := [.int .u64 0, .string ⟨#[]⟩, .int .i64 0, .slice none 0 0, .slice none 0 0, .int .u64 0, .int .u64 0, .int .u64 0, .int .i64 0, .int .i64 0, .slice none 0 0]) (e := 45) (n := 11) rfl
      have c6n : ([.int .u64 y, .string loc, .int .i64 day, .slice none 0 0, .slice none 0 0, .int .u64 0, .int .u64 y, .int .u64 z, .int .i64 0, .int .i64 1, .slice none 0 0] : List Value).length = 11 := rfl
      have c6c : ([.int .u64 y, .string loc, .int .i64 day, .slice none 0 0, .slice none 0 0, .int .u64 0, .int .u64 y, .int .u64 z, .int .i64 0, .int .i64 1, .slice none 0 0] : List Value).all (·.oneCell') = true := rfl
      have HHB := Lib.hid (((Below.refl wd.heap.size wd).alloc (Nat.le_refl _) (.cells #[.int .u64 0, .string ⟨#[]⟩, .int .i64 0, .slice none 0 0, .slice none 0 0, .int .u64 0, .int .u64 0, .int .u64 0, .int .i64 0, .int .i64 0, .slice none 0 0] 45 (0, 0))).cell (p := ⟨eb, ef, none⟩) hbl)
      have HHK := Lib.hid (((Below.refl wd.heap.size wd).alloc (Nat.le_refl _) (.cells #[.int .u64 0, .string ⟨#[]⟩, .int .i64 0, .slice none 0 0, .slice none 0 0, .int .u64 0, .int .u64 0, .int .u64 0, .int .i64 0, .int .i64 0, .slice none 0 0] 45 (0, 0))).cell (p := ⟨eb, ef + k, none⟩) hbl)
      refine wpAnyG_takeU (i := 0) (oi := { dst := some 62, op := Op.move (Operand.tmp 4), type := 24, pos := "ref.go:151", after := #[], guard := none }) (v := ?_) rfl (by kernel_rfl) (by kernel_rfl) (by kernel_rfl) (by decide) (fun _ _ _ h => h) (Or.inl ⟨by rfl, ?_⟩) (.inl (by assumption)) ?_
      rotate_left
      · intro w hSw; go_simp; try with_reducible rfl
      try simp only [Act.put, List.setIfInBounds_toArray, List.set_cons_zero, List.set_cons_succ]
      refine wpAnyG_takeU (i := 1) (oi := { dst := some 63, op := Op.move (Operand.tmp 15), type := 3, pos := "ref.go:151", after := #[], guard := none }) (v := ?_) rfl (by kernel_rfl) (by kernel_rfl) (by kernel_rfl) (by decide) (fun _ _ _ h => h) (Or.inl ⟨by rfl, ?_⟩) (.inl (by assumption)) ?_
      rotate_left
      · intro w hSw; go_simp; try with_reducible rfl
      try simp only [Act.put, List.setIfInBounds_toArray, List.set_cons_zero, List.set_cons_succ]
      refine wpAnyG_takeU (i := 2) (oi := { dst := some 64, op := Op.indexAddr 24 (Operand.tmp 62) (Operand.tmp 63), type := 0, pos := "ref.go:151", after := #[{ on := 0, ground := Ground.data }, { on := 1, ground := Ground.data }], guard := none }) (v := ?_) rfl (by kernel_rfl) (by kernel_rfl) (by kernel_rfl) (by decide) (fun _ _ _ h => h) (Or.inl ⟨by rfl, ?_⟩) (.inl (by assumption)) ?_
      rotate_left
      · intro w hSw; go_simp; try with_reducible rfl
      try simp only [Act.put, List.setIfInBounds_toArray, List.set_cons_zero, List.set_cons_succ]
      refine wpAnyG_takeM (i := 3) (oi := { dst := some 65, op := Op.load 35 (Operand.tmp 64), type := 35, pos := "ref.go:151", after := #[{ on := 2, ground := Ground.data }], guard := none }) (v := ?_) (ms := [13, 15]) rfl (by kernel_rfl) (by kernel_rfl) (by kernel_rfl) (by kernel_rfl) (by kernel_rfl) (fun _ _ _ h => h) (Or.inl ⟨by rfl, ?_⟩) (by assumption) ?_
      rotate_left
      · intro w hSw; (try dsimp only at hSw); go_simp; try with_reducible rfl
      try simp only [Act.put, List.setIfInBounds_toArray, List.set_cons_zero, List.set_cons_succ]
      refine wpAnyG_takeU (i := 4) (oi := { dst := some 66, op := Op.move (Operand.tmp 1), type := 9, pos := "ref.go:151", after := #[], guard := none }) (v := ?_) rfl (by kernel_rfl) (by kernel_rfl) (by kernel_rfl) (by decide) (fun _ _ _ h => h) (Or.inl ⟨by rfl, ?_⟩) (.inl (by assumption)) ?_
      rotate_left
      · intro w hSw; go_simp; try with_reducible rfl
      try simp only [Act.put, List.setIfInBounds_toArray, List.set_cons_zero, List.set_cons_succ]
      refine wpAnyG_takeU (i := 5) (oi := { dst := some 67, op := Op.move (Operand.tmp 0), type := 3, pos := "ref.go:151", after := #[], guard := none }) (v := ?_) rfl (by kernel_rfl) (by kernel_rfl) (by kernel_rfl) (by decide) (fun _ _ _ h => h) (Or.inl ⟨by rfl, ?_⟩) (.inl (by assumption)) ?_
      rotate_left
      · intro w hSw; go_simp; try with_reducible rfl
      try simp only [Act.put, List.setIfInBounds_toArray, List.set_cons_zero, List.set_cons_succ]
      refine wpAnyG_takeU (i := 6) (oi := { dst := some 68, op := Op.move (Operand.tmp 4), type := 24, pos := "ref.go:151", after := #[], guard := none }) (v := ?_) rfl (by kernel_rfl) (by kernel_rfl) (by kernel_rfl) (by decide) (fun _ _ _ h => h) (Or.inl ⟨by rfl, ?_⟩) (.inl (by assumption)) ?_
      rotate_left
      · intro w hSw; go_simp; try with_reducible rfl
      try simp only [Act.put, List.setIfInBounds_toArray, List.set_cons_zero, List.set_cons_succ]
      refine wpAnyG_takeU (i := 7) (oi := { dst := some 69, op := Op.move (Operand.tmp 15), type := 3, pos := "ref.go:151", after := #[], guard := none }) (v := ?_) rfl (by kernel_rfl) (by kernel_rfl) (by kernel_rfl) (by decide) (fun _ _ _ h => h) (Or.inl ⟨by rfl, ?_⟩) (.inl (by assumption)) ?_
      rotate_left
      · intro w hSw; go_simp; try with_reducible rfl
      try simp only [Act.put, List.setIfInBounds_toArray, List.set_cons_zero, List.set_cons_succ]
      refine wpAnyG_takeU (i := 8) (oi := { dst := some 70, op := Op.indexAddr 24 (Operand.tmp 68) (Operand.tmp 69), type := 0, pos := "ref.go:151", after := #[{ on := 6, ground := Ground.data }, { on := 7, ground := Ground.data }], guard := none }) (v := ?_) rfl (by kernel_rfl) (by kernel_rfl) (by kernel_rfl) (by decide) (fun _ _ _ h => h) (Or.inl ⟨by rfl, ?_⟩) (.inl (by assumption)) ?_
      rotate_left
      · intro w hSw; go_simp; try with_reducible rfl
      try simp only [Act.put, List.setIfInBounds_toArray, List.set_cons_zero, List.set_cons_succ]
      refine wpAnyG_takeM (i := 9) (oi := { dst := some 71, op := Op.load 35 (Operand.tmp 70), type := 35, pos := "ref.go:151", after := #[{ on := 8, ground := Ground.data }], guard := none }) (v := ?_) (ms := [13, 15]) rfl (by kernel_rfl) (by kernel_rfl) (by kernel_rfl) (by kernel_rfl) (by kernel_rfl) (fun _ _ _ h => h) (Or.inl ⟨by rfl, ?_⟩) (by assumption) ?_
      rotate_left
      · intro w hSw; (try dsimp only at hSw); go_simp; try with_reducible rfl
      try simp only [Act.put, List.setIfInBounds_toArray, List.set_cons_zero, List.set_cons_succ]
      refine wpAnyG_takeU (i := 10) (oi := { dst := some 72, op := Op.move (Operand.tmp 4), type := 24, pos := "ref.go:151", after := #[], guard := none }) (v := ?_) rfl (by kernel_rfl) (by kernel_rfl) (by kernel_rfl) (by decide) (fun _ _ _ h => h) (Or.inl ⟨by rfl, ?_⟩) (.inl (by assumption)) ?_
      rotate_left
      · intro w hSw; go_simp; try with_reducible rfl
      try simp only [Act.put, List.setIfInBounds_toArray, List.set_cons_zero, List.set_cons_succ]
      refine wpAnyG_takeU (i := 11) (oi := { dst := some 73, op := Op.indexAddr 24 (Operand.tmp 72) (Operand.const (Value.int IntKind.i64 0)), type := 0, pos := "ref.go:151", after := #[{ on := 10, ground := Ground.data }], guard := none }) (v := ?_) rfl (by kernel_rfl) (by kernel_rfl) (by kernel_rfl) (by decide) (fun _ _ _ h => h) (Or.inl ⟨by rfl, ?_⟩) (.inl (by assumption)) ?_
      rotate_left
      · intro w hSw; go_simp; try with_reducible rfl
      try simp only [Act.put, List.setIfInBounds_toArray, List.set_cons_zero, List.set_cons_succ]
      refine wpAnyG_takeM (i := 12) (oi := { dst := some 74, op := Op.load 35 (Operand.tmp 73), type := 35, pos := "ref.go:151", after := #[{ on := 11, ground := Ground.data }], guard := none }) (v := ?_) (ms := [13, 15]) rfl (by kernel_rfl) (by kernel_rfl) (by kernel_rfl) (by kernel_rfl) (by kernel_rfl) (fun _ _ _ h => h) (Or.inl ⟨by rfl, ?_⟩) (by assumption) ?_
      rotate_left
      · intro w hSw; (try dsimp only at hSw); go_simp; try with_reducible rfl
      try simp only [Act.put, List.setIfInBounds_toArray, List.set_cons_zero, List.set_cons_succ]
      refine wpAnyG_takeU (i := 13) (oi := { dst := some 75, op := Op.build 45 #[(0, Operand.tmp 65), (1, Operand.tmp 66), (2, Operand.tmp 67), (6, Operand.tmp 71), (7, Operand.tmp 74), (9, Operand.const (Value.int IntKind.i64 1))], type := 45, pos := "ref.go:151", after := #[{ on := 3, ground := Ground.data }, { on := 4, ground := Ground.data }, { on := 5, ground := Ground.data }, { on := 9, ground := Ground.data }, { on := 12, ground := Ground.data }], guard := none }) (v := ?_) rfl (by kernel_rfl) (by kernel_rfl) (by kernel_rfl) (by decide) (fun _ _ _ h => h) (Or.inl ⟨by rfl, ?_⟩) (.inl (by assumption)) ?_
      rotate_left
      · intro w hSw; go_simp; try with_reducible rfl
      try simp only [Act.put, List.setIfInBounds_toArray, List.set_cons_zero, List.set_cons_succ]
      refine wpAnyG_one (i := 14) (o := { dst := some 16, op := Op.alloc 45, type := 0, pos := "ref.go:151", after := #[], guard := none }) (by kernel_rfl) rfl (fun K hK => ?_)
      go_simp
      refine hK.out _ _ (.inl ⟨HHK.out.trans hHeld.1, HHB.out.trans hHeld.2⟩) ?_
      clear hK K
      try simp only [Act.put, List.setIfInBounds_toArray, List.set_cons_zero, List.set_cons_succ]
      refine wpAnyG_one (i := 15) (o := { dst := none, op := Op.store 45 (Operand.tmp 16) (Operand.tmp 75), type := 0, pos := "ref.go:151", after := #[{ on := 14, ground := Ground.data }, { on := 13, ground := Ground.data }, { on := 0, ground := Ground.phase }, { on := 1, ground := Ground.phase }, { on := 2, ground := Ground.phase }, { on := 3, ground := Ground.phase }, { on := 4, ground := Ground.phase }, { on := 5, ground := Ground.phase }, { on := 6, ground := Ground.phase }, { on := 7, ground := Ground.phase }, { on := 8, ground := Ground.phase }, { on := 9, ground := Ground.phase }, { on := 10, ground := Ground.phase }, { on := 11, ground := Ground.phase }, { on := 12, ground := Ground.phase }, { on := 13, ground := Ground.phase }, { on := 14, ground := Ground.phase }], guard := none }) (by kernel_rfl) rfl (fun K hK => ?_)
      go_simp
      refine hK.out _ _ (.inr rfl) ?_
      clear hK K
      try simp only [Act.put, List.setIfInBounds_toArray, List.set_cons_zero, List.set_cons_succ]
      refine wpAnyG_done (by kernel_rfl) ?_ _
      clear hHeld HHB HHK
      go_upto_region 11 with fail
      have HP := Lib.hid (putRec (W := wd) (e := 45) (zs := [.int .u64 0, .string ⟨#[]⟩, .int .i64 0, .slice none 0 0, .slice none 0 0, .int .u64 0, .int .u64 0, .int .u64 0, .int .i64 0, .int .i64 0, .slice none 0 0]) (cs := [.int .u64 y, .string loc, .int .i64 day, .slice none 0 0, .slice none 0 0, .int .u64 0, .int .u64 y, .int .u64 z, .int .i64 0, .int .i64 1, .slice none 0 0]) rfl)
      have HBD := Lib.hid HP.out.2
      have HBX := Lib.hid HP.out.1
      clear HP tc c6n c6c
      generalize (wd.alloc (.cells #[.int .u64 0, .string ⟨#[]⟩, .int .i64 0, .slice none 0 0, .slice none 0 0, .int .u64 0, .int .u64 0, .int .u64 0, .int .i64 0, .int .i64 0, .slice none 0 0] 45 (0, 0))).setCells wd.heap.size 0 [.int .u64 y, .string loc, .int .i64 day, .slice none 0 0, .slice none 0 0, .int .u64 0, .int .u64 y, .int .u64 z, .int .i64 0, .int .i64 1, .slice none 0 0] = w4 at *
      obtain ⟨gx, hgx⟩ : ∃ g, wd.heap.size = g := ⟨_, rfl⟩
      have HGX := Lib.hid hgx
      have HGE : Hid (w.heap.size ≤ gx) := Lib.hid (by rw [← hgx]; exact HB.out.size)
      rw [hgx] at HBX HBD ⊢
      clear hgx
      have HGL := Lib.hid (block_lt HBX.out)
      have HLF := Lib.hid (HF.out.below HB.out)
      go_wp2_with fail
      go_loopw [17] (fun kv wr2 => ∃ (j : Nat) (q9 : Option Addr) (c9 : Nat), j ≤ 4 ∧ 4 * k + j ≤ n ∧ kv = .int .i64 ((4 * k + j : Nat) : Int) ∧ wr2.heap[gx]? = some (.cells #[.int .u64 y, .string loc, .int .i64 day, .slice q9 j c9, .slice none 0 0, .int .u64 0, .int .u64 y, .int .u64 z, .int .i64 0, .int .i64 1, .slice none 0 0] 45 (0, 0)) ∧ wr2.ownsRow (gx + 1) 37 6 (.slice q9 j c9) j (encL Cpn.cells (((fl.map Dk.soldC).drop (4 * k)).take j)) ∧ Below gx wd wr2) (fun kv _ => 4 * k + 4 - (intOf kv).toNat)
      case atStart => exact ⟨0, none, 0, by omega, by have := HN4.out; omega, by first | rfl | go_num, HBX.out, World.ownsRow_nil _ _ _ _, HBD.out⟩
      case round =>
        obtain ⟨j, q9, c9, hj4, hjn, rfl, hbx, hown, hbd⟩ := hrel
        replace HBX := Lib.hid hbx; replace HBD := Lib.hid hbd
        have HOC := Lib.hid hown
        clear hbx hbd hown
        have hkj : (k : Int) ≤ 2 := hk3
        by_cases hj : j < 4
        · by_cases hjm : 4 * k + j < n
          · obtain ⟨y2, hy2⟩ : ∃ y2, fl[4 * k + j]? = some y2 := ⟨_, List.getElem?_eq_getElem (by have := HNF.out; omega)⟩
            have HY2 := Lib.hid hy2
            have HS2 : Hid (y2.st = 0 ∧ y2.ho = 0 ∧ y2.nx = 0) := Lib.hid (by have := Dk.row_sold H1.out y2 (List.mem_of_getElem? hy2); unfold Dk.soldB at this; simp only [Bool.and_eq_true, decide_eq_true_eq] at this; omega)
            have HLF2 : Hid (LS Cpn.cells 6 wr (.slice p n cap) fl) := Lib.hid (HLF.out.below (by rw [HGX.out]; exact HBD.out))
            obtain ⟨fb, ff, hp, hfl, hr⟩ := HLF2.out.at hy2
            subst hp
            obtain ⟨g1, g2⟩ := loL_of hr (Cpn.cells_length y2)
            have g3 : y2.cells = [.int .i64 y2.fl, .int .i64 y2.dy, .int .i64 y2.va, .int .i64 y2.st, .int .i64 y2.ho, .int .u64 y2.nx] := rfl
            rw [g3] at g1
            clear g3 hr hy2
            have h1j : ((4 * k + j : Nat) : Int) < 4 * (k : Int) + 4 := by omega
            have h2j : ((4 * k + j : Nat) : Int) < (n : Int) := by omega
            generalize hkk : 4 * k + j = kk at *
            have HKK := Lib.hid hkk
            clear hkk
            have tc := there_newT (w := wr) (zs := [.int .i64 0, .int .i64 0, .int .i64 0, .int .i64 0, .int .i64 0, .int .u64 0]) (e := 37) (n := 6) rfl
            have c6n : ([.int .i64 y2.fl, .int .i64 y2.dy, .int .i64 y2.va, .int .i64 y2.st, .int .i64 y2.ho, .int .u64 y2.nx] : List Value).length = 6 := rfl
            have c6c : ([.int .i64 y2.fl, .int .i64 y2.dy, .int .i64 y2.va, .int .i64 y2.st, .int .i64 y2.ho, .int .u64 y2.nx] : List Value).all (·.oneCell') = true := rfl
            go_upto_region 15 with fail
            have HP := Lib.hid (putRec (W := wr) (e := 37) (zs := [.int .i64 0, .int .i64 0, .int .i64 0, .int .i64 0, .int .i64 0, .int .u64 0]) (cs := [.int .i64 y2.fl, .int .i64 y2.dy, .int .i64 y2.va, .int .i64 y2.st, .int .i64 y2.ho, .int .u64 y2.nx]) rfl)
            clear g1 g2 tc c6n c6c
            have HGC := Lib.hid (block_lt HBX.out)
            replace HBX := Lib.hid ((HP.out.2.block _ (block_lt HBX.out)).trans HBX.out)
            have HCL := Lib.hid (fun b hb => (recs_base HOC.out (b := b) hb))
            replace HOC := Lib.hid (recs_below HOC.out HP.out.2)
            have HBS := Lib.hid HBD.out.size
            replace HBD := Lib.hid (HBD.out.trans (HP.out.2.mono (by have := block_lt HBX.out; have := HBD.out.size; have := HGX.out; omega)))
            have HRC := Lib.hid HP.out.1
            skip
            clear HP
            generalize (wr.alloc (.cells #[.int .i64 0, .int .i64 0, .int .i64 0, .int .i64 0, .int .i64 0, .int .u64 0] 37 (0, 0))).setCells wr.heap.size 0 [.int .i64 y2.fl, .int .i64 y2.dy, .int .i64 y2.va, .int .i64 y2.st, .int .i64 y2.ho, .int .u64 y2.nx] = w5 at *
            generalize wr.heap.size = gc at *
            have kf := fun i => frozen_of_row w5 gc i _ _ HRC.out
            have kc := fun i => cell_of_row w5 gc i _ _ _ HRC.out
            go_upto_region 16 with fail
            clear kf kc
            have HON := Lib.hid ((Only.refl gc w5).setCell 3 (.int .i64 1))
            have HRC6 : Hid ((w5.setCell ⟨gc, 3, none⟩ (.int .i64 1)).heap[gc]? = some (.cells #[.int .i64 y2.fl, .int .i64 y2.dy, .int .i64 y2.va, .int .i64 1, .int .i64 0, .int .u64 0] 37 (0, 0))) := Lib.hid (by have h := heap_setCell_same _ _ 3 _ _ (.int .i64 1) HRC.out; rw [HS2.out.2.1, HS2.out.2.2] at h; exact h)
            replace HBX := Lib.hid ((HON.out.block _ (block_lt HBX.out) (by have := HGC.out; omega)).trans HBX.out)
            replace HOC := Lib.hid (recs_only HOC.out (fun b hb => by have := HCL.out b hb; omega) HON.out)
            replace HBD := Lib.hid (HBD.out.setCell (p := ⟨gc, 3, none⟩) (by have := HGC.out; show gx ≤ gc; omega) (.int .i64 1))
            clear HON HRC HCL
            generalize w5.setCell ⟨gc, 3, none⟩ (.int .i64 1) = w6 at *
            obtain ⟨f1, f2⟩ := row_loT 6 HRC6.out rfl rfl
            have kx := fun i => cell_of_row w6 gx i _ _ _ HBX.out
            have HBN := Lib.hid ((Below.refl w6.heap.size w6).alloc (Nat.le_refl _) (.cells #[.int .i64 y2.fl, .int .i64 y2.dy, .int .i64 y2.va, .int .i64 1, .int .i64 0, .int .u64 0] 37 (0, 0)))
            have HO1 := Lib.hid (recs_below HOC.out HBN.out)
            have HL1 : Hid (LS Cpn.cells 6 (w6.alloc (.cells #[.int .i64 y2.fl, .int .i64 y2.dy, .int .i64 y2.va, .int .i64 1, .int .i64 0, .int .u64 0] 37 (0, 0))) (.slice (some ⟨w6.heap.size, 0, none⟩) 1 1) [Dk.soldC y2]) := Lib.hid (row_one (x := Dk.soldC y2) (new_rowW _ _ _ rfl) rfl Cpn.cells_length (by decide))
            have HBX1 := Lib.hid ((HBN.out.block _ (block_lt HBX.out)).trans HBX.out)
            go_upto_region 13 with (at_builtin; (refine wpList_append_recs elemCp rfl _ _ rfl (gx + 1) _ j _ rfl HO1.out _ _ rfl HL1.out (by have := hj4; simp; omega) (block_lt HBX1.out) ?_); intro v1 w9 hown1 hg1 hn1 hat1; (obtain ⟨q1, z1, hv1⟩ := rec_formT hown1); subst hv1; have HOW1 := Lib.hid hown1; have HGR := Lib.hid hg1; have HBX9 := Lib.hid ((hg1.block gx (block_lt HBX1.out) (fun e => by have := (recs_base HO1.out e.symm).1; omega)).trans HBX1.out); clear hown1 hg1 hn1 hat1; have kf := fun i => frozen_of_row w9 gx i _ _ HBX9.out; have k9 := fun i => cell_of_row w9 gx i _ _ _ HBX9.out)
            clear f1 f2 kx kf k9
            have HON := Lib.hid ((Only.refl gx w9).setCell 3 (.slice q1 (j + 1) z1))
            have HBXz := Lib.hid (heap_setCell_same _ _ 3 _ _ (.slice q1 (j + 1) z1) HBX9.out)
            have HOWz := Lib.hid (recs_only HOW1.out (fun b hb => by have := (recs_base HOW1.out hb).1; omega) HON.out)
            have HBDz := Lib.hid (((HBD.out.trans (HBN.out.mono (Nat.le_of_lt (block_lt HBX.out)))).grown HGR.out (Nat.le_of_lt (block_lt HBX1.out)) (fun b hb => by have := (recs_base HO1.out hb).1; omega)).setCell (p := ⟨gx, 3, none⟩) (Nat.le_refl _) (.slice q1 (j + 1) z1))
            have HTJ : Hid (((fl.map Dk.soldC).drop (4 * k)).take (j + 1) = ((fl.map Dk.soldC).drop (4 * k)).take j ++ [Dk.soldC y2]) := Lib.hid (Tkt.take_snocT (by rw [List.getElem?_drop, List.getElem?_map, HKK.out, HY2.out]; rfl))
            clear HON HOW1 HGR HBX9 HBX1 HO1 HL1 HBN HBX HOC HBD
            generalize w9.setCell ⟨gx, 3, none⟩ (.slice q1 (j + 1) z1) = wz at *
            go_wp2_with fail
            go_roundw
            case rel => exact ⟨j + 1, q1, z1, by omega, by have := HKK.out; omega, by have := HKK.out; subst this; go_num, HBXz.out, by rw [HTJ.out]; exact HOWz.out, HBDz.out⟩
            case measure => simp [intOf]; have := HKK.out; omega
          · have h1x : ((4 * k + j : Nat) : Int) < 4 * (k : Int) + 4 := by omega
            have h2x : ¬ ((4 * k + j : Nat) : Int) < (n : Int) := by omega
            have HCS : Hid (((fl.map Dk.soldC).drop (4 * k)).take j = ((fl.map Dk.soldC).drop (4 * k)).take 4) := Lib.hid (by
              by_cases h4 : j = 4
              · rw [h4]
              · rw [List.take_of_length_le (by rw [List.length_drop, List.length_map, ← HNF.out]; omega), List.take_of_length_le (by rw [List.length_drop, List.length_map, ← HNF.out]; omega)])
            rw [HCS.out] at HOC
            have HVB : Hid (∀ c ∈ ((fl.map Dk.soldC).drop (4 * k)).take 4, (0 ≤ c.va ∧ c.va ≤ 1000000000000) ∧ c.wf) := Lib.hid (fun c hc => by have hm := List.mem_of_mem_drop (List.mem_of_mem_take hc); exact ⟨Dk.row_va H1.out c hm, Dk.row_wf H1.out c hm⟩)
            have HCL : Hid ((((fl.map Dk.soldC).drop (4 * k)).take 4).length ≤ 4) := Lib.hid (List.length_take_le _ _)
            clear HCS
            generalize hcs : ((fl.map Dk.soldC).drop (4 * k)).take 4 = cs at *
            have HCS := Lib.hid hcs
            clear hcs
            have HJL := Lib.hid (recs_cases HOC.out Cpn.cells_length (by decide)).1
            generalize hkk : 4 * k + j = kk at *
            clear hkk hjn hj4
            go_upto_region 17 with fail
            (try clear h1x)
            (try clear h2x)
            (try clear hj)
            (try clear hjm)
            obtain ⟨cq, cc, hq⟩ : ∃ (cq : Option Addr) (cc : Nat), Value.slice q9 j c9 = .slice cq cs.length cc := ⟨q9, c9, by rw [HJL.out]⟩
            rw [hq] at HOC HBX
            rw [HJL.out] at HOC
            clear hq HJL
            obtain ⟨b0, hb0⟩ : ∃ b, ((k : Int) == 0) = b := ⟨_, rfl⟩
            cases b0
            · obtain ⟨xq, xz, tk, hx1, hx2, hx3⟩ : ∃ (xq : Option Addr) (xz : Nat) (tk : List Txx), (Value.slice none 0 0 = .slice xq tk.length xz) ∧ wr.ownsRow (gx + 1) 56 2 (.slice xq tk.length xz) tk.length (encL Txx.cells tk) ∧ (if k = 0 then ts else []) = tk := ⟨none, 0, [], rfl, World.ownsRow_nil _ _ _ _, by rw [if_neg (by simpa using hb0)]⟩
              have HBX6 : Hid (wr.heap[gx]? = some (.cells #[.int .u64 y, .string loc, .int .i64 day, .slice cq cs.length cc, .slice xq tk.length xz, .int .u64 0, .int .u64 y, .int .u64 z, .int .i64 0, .int .i64 1, .slice none 0 0] 45 (0, 0))) := Lib.hid (by rw [← hx1]; exact HBX.out)
              have HXO := Lib.hid hx2; have HTK := Lib.hid hx3
              clear hx1 hx2 hx3 HBX
              go_upto_region 19 with fail
              generalize wr = w6 at *
              have HTX : Hid ((∀ t ∈ tk, 0 ≤ t.am ∧ t.am ≤ 1000000000000) ∧ (∀ t ∈ tk, t.wf) ∧ tk.length ≤ 4) := Lib.hid (by
                have h1 := Dk.taxed_am H2.out
                have h2 := Dk.taxed_wf H2.out
                have h3 := HTK.out
                by_cases hk0 : k = 0
                · rw [if_pos hk0] at h3; rw [← h3]; exact ⟨h1.1, h2, h1.2⟩
                · rw [if_neg hk0] at h3; rw [← h3]; exact ⟨by simp, by simp, by simp⟩)
              have HVV : Hid (0 ≤ Dk.valN [1] cs ∧ Dk.valN [1] cs ≤ 4000000000000) := Lib.hid (by have h := Dk.valN_bound [1] cs (fun c hc => (HVB.out c hc).1); have := HCL.out; omega)
              have HTT : Hid (0 ≤ Tkt.taxI tk ∧ Tkt.taxI tk ≤ 4000000000000) := Lib.hid (by have h := Tkt.taxI_bound tk HTX.out.1; have := HTX.out.2.2; omega)
              have HTKI : Hid (Dk.tkI day loc fl ts z k y = ⟨y, loc, day, cs, tk, 0, y, z, 0, 1, []⟩) := Lib.hid (by unfold Dk.tkI; rw [HCS.out, HTK.out])
              have HVC := Lib.hid (fun W (po : Option Addr) (no co : Nat) hl ho => rworth15_any ⟨y, loc, day, cs, tk, 0, y, z, 0, 1, []⟩ ⟨cq, cs.length, cc⟩ ⟨xq, tk.length, xz⟩ ⟨none, 0, 0⟩ [1] po no co W hl (fun c hc => (HVB.out c hc).1) (by have := HCL.out; show cs.length ≤ 1000; omega) ho)
              have HTC := Lib.hid (fun W hl => rtaxB_any ⟨y, loc, day, cs, tk, 0, y, z, 0, 1, []⟩ ⟨cq, cs.length, cc⟩ ⟨xq, tk.length, xz⟩ ⟨none, 0, 0⟩ W hl HTX.out.1 (by have := HTX.out.2.2; show tk.length ≤ 1000; omega))
              obtain ⟨vv, hvv⟩ : ∃ v, Dk.valN [1] cs = v := ⟨_, rfl⟩
              obtain ⟨xx, hxx⟩ : ∃ v, Tkt.taxI tk = v := ⟨_, rfl⟩
              dsimp only at HVC HTC
              rw [hvv] at HVC HVV
              rw [hxx] at HTC HTT
              have HVE := Lib.hid hvv; have HXE := Lib.hid hxx
              clear hvv hxx
              refine wp_region_rel (T := fun A B => Below A.heap.size A B) (G := fun W => Below w6.heap.size w6 W) (R := fun k => match k with | 0 => fun v _ => v = .agg #[.int .u64 y, .string loc, .int .i64 day, .slice cq cs.length cc, .slice xq tk.length xz, .int .u64 0, .int .u64 y, .int .u64 z, .int .i64 0, .int .i64 1, .slice none 0 0] | 1 => fun v W => LS stC 1 W v [1] | 2 => fun v _ => v = .int .i64 vv | 3 => fun v _ => v = .agg #[.int .u64 y, .string loc, .int .i64 day, .slice cq cs.length cc, .slice xq tk.length xz, .int .u64 0, .int .u64 y, .int .u64 z, .int .i64 0, .int .i64 1, .slice none 0 0] | 4 => fun v _ => v = .int .i64 xx | 5 => fun v _ => v = .int .i64 vv | 6 => fun v _ => v = .int .i64 xx | _ => fun _ _ => True) (by kernel_rfl) (by kernel_rfl) (by kernel_rfl) ?iT ((Below.refl _ _).drew) ?iS ?iD
              case iT =>
                intro k v A B hT h
                match k, h with
                | 0, h => exact h
                | 1, h => exact h.below hT
                | 2, h => exact h
                | 3, h => exact h
                | 4, h => exact h
                | 5, h => exact h
                | 6, h => exact h
                | _ + 7, h => exact trivial
              case iS =>
                refine ⟨?s0, ?s1, ?s2, ?s3, ?s4, ?s5, ?s6, trivial⟩
                case s0 =>
                  intro f W hG hW K hK
                  try dsimp only at hG
                  simp only [putF, Act.put, List.setIfInBounds_toArray, List.set_cons_zero, List.set_cons_succ, Nat.reduceAdd, Nat.zero_add] at hK ⊢
                  have hrw := (hG.block _ (block_lt HBX6.out)).trans HBX6.out
                  obtain ⟨f1, f2⟩ := row_loT 11 hrw rfl rfl
                  clear hW
                  go_simp
                  refine hK.out _ _ (Below.refl _ _) hG ?_
                  with_reducible rfl
                case s1 =>
                  intro f W hG hW K hK
                  try dsimp only at hG
                  simp only [putF, Act.put, List.setIfInBounds_toArray, List.set_cons_zero, List.set_cons_succ, Nat.reduceAdd, Nat.zero_add] at hK ⊢
                  clear hW
                  go_simp
                  refine hK.out _ _ ((Below.refl _ _).alloc (Nat.le_refl _) _) (hG.alloc hG.size _) ?_
                  exact row_one (enc := stC) (x := (1 : Int)) (new_rowW _ _ _ rfl) rfl (fun _ => rfl) (by decide)
                case s2 =>
                  intro f W hG hW K hK
                  try dsimp only at hG
                  have e0 := hW 0 (by kernel_rfl)
                  change f 0 = .agg #[.int .u64 y, .string loc, .int .i64 day, .slice cq cs.length cc, .slice xq tk.length xz, .int .u64 0, .int .u64 y, .int .u64 z, .int .i64 0, .int .i64 1, .slice none 0 0] at e0
                  have e1 := hW 1 (by kernel_rfl)
                  try dsimp only at e1
                  simp only [putF, Act.put, List.setIfInBounds_toArray, List.set_cons_zero, List.set_cons_succ, Nat.reduceAdd, Nat.zero_add] at hK ⊢
                  (try rw [e0])
                  (try rw [e0] at hK)
                  obtain ⟨qs, zs, hqs⟩ := e1.shape
                  rw [hqs] at e1
                  simp only [hqs] at hK ⊢
                  clear hW
                  go_simp
                  refine (HVC.out W qs _ zs ((LS.of_own HOC.out Cpn.cells_length (by decide)).below hG) e1).mono ?_
                  rintro e w' ⟨rfl, hb⟩
                  exact hK.out _ _ hb (hG.trans (hb.mono hG.size)) rfl
                case s3 =>
                  intro f W hG hW K hK
                  try dsimp only at hG
                  simp only [putF, Act.put, List.setIfInBounds_toArray, List.set_cons_zero, List.set_cons_succ, Nat.reduceAdd, Nat.zero_add] at hK ⊢
                  have hrw := (hG.block _ (block_lt HBX6.out)).trans HBX6.out
                  obtain ⟨f1, f2⟩ := row_loT 11 hrw rfl rfl
                  clear hW
                  go_simp
                  refine hK.out _ _ (Below.refl _ _) hG ?_
                  with_reducible rfl
                case s4 =>
                  intro f W hG hW K hK
                  try dsimp only at hG
                  have e2 := hW 2 (by kernel_rfl)
                  change f 2 = .int .i64 vv at e2
                  have e3 := hW 3 (by kernel_rfl)
                  change f 3 = .agg #[.int .u64 y, .string loc, .int .i64 day, .slice cq cs.length cc, .slice xq tk.length xz, .int .u64 0, .int .u64 y, .int .u64 z, .int .i64 0, .int .i64 1, .slice none 0 0] at e3
                  simp only [putF, Act.put, List.setIfInBounds_toArray, List.set_cons_zero, List.set_cons_succ, Nat.reduceAdd, Nat.zero_add] at hK ⊢
                  (try rw [e2])
                  (try rw [e2] at hK)
                  (try rw [e3])
                  (try rw [e3] at hK)
                  clear hW
                  go_simp
                  refine (HTC.out W ((LS.of_own HXO.out Txx.cells_length (by decide)).below hG)).mono ?_
                  rintro e w' ⟨rfl, hb⟩
                  exact hK.out _ _ hb (hG.trans (hb.mono hG.size)) rfl
                case s5 =>
                  intro f W hG hW K hK
                  try dsimp only at hG
                  have e0 := hW 0 (by kernel_rfl)
                  change f 0 = .agg #[.int .u64 y, .string loc, .int .i64 day, .slice cq cs.length cc, .slice xq tk.length xz, .int .u64 0, .int .u64 y, .int .u64 z, .int .i64 0, .int .i64 1, .slice none 0 0] at e0
                  have e1 := hW 1 (by kernel_rfl)
                  try dsimp only at e1
                  have e2 := hW 2 (by kernel_rfl)
                  change f 2 = .int .i64 vv at e2
                  have e4 := hW 4 (by kernel_rfl)
                  change f 4 = .int .i64 xx at e4
                  simp only [putF, Act.put, List.setIfInBounds_toArray, List.set_cons_zero, List.set_cons_succ, Nat.reduceAdd, Nat.zero_add] at hK ⊢
                  (try rw [e0])
                  (try rw [e0] at hK)
                  (try rw [e2])
                  (try rw [e2] at hK)
                  (try rw [e4])
                  (try rw [e4] at hK)
                  clear hW
                  go_simp
                  refine hK.out _ _ (Below.refl _ _) hG ?_
                  first | exact trivial | with_reducible rfl | rfl
                case s6 =>
                  intro f W hG hW K hK
                  try dsimp only at hG
                  have e0 := hW 0 (by kernel_rfl)
                  change f 0 = .agg #[.int .u64 y, .string loc, .int .i64 day, .slice cq cs.length cc, .slice xq tk.length xz, .int .u64 0, .int .u64 y, .int .u64 z, .int .i64 0, .int .i64 1, .slice none 0 0] at e0
                  have e1 := hW 1 (by kernel_rfl)
                  try dsimp only at e1
                  have e2 := hW 2 (by kernel_rfl)
                  change f 2 = .int .i64 vv at e2
                  have e3 := hW 3 (by kernel_rfl)
                  change f 3 = .agg #[.int .u64 y, .string loc, .int .i64 day, .slice cq cs.length cc, .slice xq tk.length xz, .int .u64 0, .int .u64 y, .int .u64 z, .int .i64 0, .int .i64 1, .slice none 0 0] at e3
                  have e4 := hW 4 (by kernel_rfl)
                  change f 4 = .int .i64 xx at e4
                  have e5 := hW 5 (by kernel_rfl)
                  change f 5 = .int .i64 vv at e5
                  simp only [putF, Act.put, List.setIfInBounds_toArray, List.set_cons_zero, List.set_cons_succ, Nat.reduceAdd, Nat.zero_add] at hK ⊢
                  (try rw [e0])
                  (try rw [e0] at hK)
                  (try rw [e2])
                  (try rw [e2] at hK)
                  (try rw [e3])
                  (try rw [e3] at hK)
                  (try rw [e4])
                  (try rw [e4] at hK)
                  (try rw [e5])
                  (try rw [e5] at hK)
                  clear hW
                  go_simp
                  refine hK.out _ _ (Below.refl _ _) hG ?_
                  first | exact trivial | with_reducible rfl | rfl
              case iD =>
                intro f W hG hR
                try dsimp only at hG
                have r0 := hR 0 (by decide)
                change f 0 = .agg #[.int .u64 y, .string loc, .int .i64 day, .slice cq cs.length cc, .slice xq tk.length xz, .int .u64 0, .int .u64 y, .int .u64 z, .int .i64 0, .int .i64 1, .slice none 0 0] at r0
                have r1 := hR 1 (by decide)
                try dsimp only at r1
                have r2 := hR 2 (by decide)
                change f 2 = .int .i64 vv at r2
                have r3 := hR 3 (by decide)
                change f 3 = .agg #[.int .u64 y, .string loc, .int .i64 day, .slice cq cs.length cc, .slice xq tk.length xz, .int .u64 0, .int .u64 y, .int .u64 z, .int .i64 0, .int .i64 1, .slice none 0 0] at r3
                have r4 := hR 4 (by decide)
                change f 4 = .int .i64 xx at r4
                have r5 := hR 5 (by decide)
                change f 5 = .int .i64 vv at r5
                have r6 := hR 6 (by decide)
                change f 6 = .int .i64 xx at r6
                clear hR
                simp only [putF, Act.put, List.setIfInBounds_toArray, List.set_cons_zero, List.set_cons_succ, Nat.reduceAdd, Nat.zero_add]
                (try rw [r0])
                (try rw [r2])
                (try rw [r3])
                (try rw [r4])
                (try rw [r5])
                (try rw [r6])
                clear r0 r1 r2 r3 r4 HVC HTC
                replace HBX6 := Lib.hid ((hG.block _ (block_lt HBX6.out)).trans HBX6.out)
                replace HOC := Lib.hid (recs_below HOC.out hG)
                replace HXO := Lib.hid (recs_below HXO.out hG)
                have HBF : Hid (Below wd.heap.size wd W) := Lib.hid (by rw [HGX.out]; exact HBD.out.trans (hG.mono (by have := HBD.out.size; have := HGX.out; omega)))
                replace HB := Lib.hid (HB.out.trans (HBF.out.mono HB.out.size))
                replace HO := Lib.hid (recs_below HO.out HBF.out)
                replace HTI := Lib.hid (fun x hx => (HTI.out x hx).below HBF.out)
                replace HPO := Lib.hid (recs_below HPO.out HBF.out)
                replace HOC := Lib.hid (own_monoT HOC.out (show w.heap.size ≤ gx + 1 by have := HGE.out; omega))
                replace HXO := Lib.hid (own_monoT HXO.out (show w.heap.size ≤ gx + 1 by have := HGE.out; omega))
                clear hG HBF HBD
                generalize W = w7 at *
                go_upto_region 20 with fail
                obtain ⟨f1, f2⟩ := row_loT 11 HBX6.out rfl rfl
                have HBN := Lib.hid ((Below.refl w7.heap.size w7).alloc (Nat.le_refl _) (.cells #[.int .u64 y, .string loc, .int .i64 day, .slice cq cs.length cc, .slice xq tk.length xz, .int .u64 0, .int .u64 y, .int .u64 z, .int .i64 0, .int .i64 1, .slice none 0 0] 45 (0, 0)))
                have HO1 := Lib.hid (recs_below HO.out HBN.out)
                obtain ⟨yr, hyr⟩ : ∃ yr : Tkr, yr = Tkr.mk ⟨y, loc, day, cs, tk, 0, y, z, 0, 1, []⟩ ⟨cq, cs.length, cc⟩ ⟨xq, tk.length, xz⟩ ⟨none, 0, 0⟩ := ⟨_, rfl⟩
                have HYC : Hid (yr.cells = [.int .u64 y, .string loc, .int .i64 day, .slice cq cs.length cc, .slice xq tk.length xz, .int .u64 0, .int .u64 y, .int .u64 z, .int .i64 0, .int .i64 1, .slice none 0 0]) := Lib.hid (by rw [hyr]; rfl)
                have HYT : Hid (yr.t = ⟨y, loc, day, cs, tk, 0, y, z, 0, 1, []⟩) := Lib.hid (by rw [hyr])
                have HTY : Hid (TR w.heap.size w7 yr) := Lib.hid (by rw [hyr]; exact ⟨HOC.out, HXO.out, ⟨rfl, rfl⟩, tkI_wf HYU.out HZU.out HDY.out hloc (fun c hc => (HVB.out c hc).2) HTX.out.2.1⟩)
                clear hyr
                have HL1 : Hid (LS Tkr.cells 11 (w7.alloc (.cells #[.int .u64 y, .string loc, .int .i64 day, .slice cq cs.length cc, .slice xq tk.length xz, .int .u64 0, .int .u64 y, .int .u64 z, .int .i64 0, .int .i64 1, .slice none 0 0] 45 (0, 0))) (.slice (some ⟨w7.heap.size, 0, none⟩) 1 1) [yr]) := Lib.hid (row_one (x := yr) (new_rowW _ _ _ rfl) (by rw [HYC.out]) Tkr.cells_length (by decide))
                have HB1 := Lib.hid (HB.out.trans (HBN.out.mono HB.out.size))
                go_upto_region 21 with (at_builtin; (refine wpList_append_recs elemTk rfl _ _ rfl w.heap.size _ k _ rfl HO1.out _ _ rfl HL1.out (by have := HK3.out; simp; omega) HB1.out.size ?_); intro v1 w9 hown1 hg1 hn1 hat1; (obtain ⟨q1, z1, hv1⟩ := rec_formT hown1); subst hv1; have HOW1 := Lib.hid hown1; have HGR := Lib.hid hg1; clear hown1 hg1 hn1 hat1)
                clear f1 f2
                have HB9 := Lib.hid (HB1.out.grown HGR.out HB1.out.size (fun b hb => (recs_base HO1.out hb).1))
                have HTI9 := Lib.hid (fun x hx => ((HTI.out x hx).below HBN.out).grown HO1.out HGR.out (by decide) (by decide))
                have HTY9 := Lib.hid ((HTY.out.below HBN.out).grown HO1.out HGR.out (by decide) (by decide))
                have HPO9 := Lib.hid (own_apartT (recs_below HPO.out HBN.out) HO1.out HGR.out (by decide))
                clear HB1 HO1 HL1 HBN HGR HTI HTY HPO HOC HXO HBX6 HB HO
                generalize w9 = wa at *
                obtain ⟨eb3, ef3, hp, hbl3, hr⟩ := (HL.out.below HB9.out).at HY.out
                injection hp with hp
                injection hp with hp2 hp3 _
                subst hp2 hp3
                have hc : wa.cell? ⟨eb, ef + k, none⟩ = some (.int .u64 y) := by have := hr 0 _ rfl; rwa [Nat.mul_one] at this
                clear hr
                have hvv1 := HVV.out.1; have hvv2 := HVV.out.2; have hxx1 := HTT.out.1; have hxx2 := HTT.out.2
                have HBN := Lib.hid ((Below.refl wa.heap.size wa).alloc (Nat.le_refl _) (.cells #[.int .i64 day, .int .u64 y, .int .i64 1, .int .i64 1, .int .i64 (vv + xx), .int .i64 (-vv), .int .i64 0, .int .i64 (-xx), .int .i64 0, .int .i64 0] 59 (0, 0)))
                have HP1 := Lib.hid (recs_below HPO9.out HBN.out)
                have HPE : Hid (Dk.poI day (Dk.tkI day loc fl ts z k y) = ⟨day, y, 1, 1, vv + xx, -vv, 0, -xx, 0, 0⟩) := Lib.hid (by rw [HTKI.out]; unfold Dk.poI; dsimp only; rw [HVE.out, HXE.out])
                have HL2 : Hid (LS Pst.cells 10 (wa.alloc (.cells #[.int .i64 day, .int .u64 y, .int .i64 1, .int .i64 1, .int .i64 (vv + xx), .int .i64 (-vv), .int .i64 0, .int .i64 (-xx), .int .i64 0, .int .i64 0] 59 (0, 0))) (.slice (some ⟨wa.heap.size, 0, none⟩) 1 1) [Dk.poI day (Dk.tkI day loc fl ts z k y)]) := Lib.hid (row_one (x := Dk.poI day (Dk.tkI day loc fl ts z k y)) (new_rowW _ _ _ rfl) (by rw [HPE.out]; rfl) (fun _ => rfl) (by decide))
                have HB1 := Lib.hid (HB9.out.trans (HBN.out.mono HB9.out.size))
                go_upto_region 9 with (at_builtin; (refine wpList_append_recs elemPd rfl _ _ rfl w.heap.size _ k _ rfl HP1.out _ _ rfl HL2.out (by have := HK3.out; simp; omega) HB1.out.size ?_); intro v1 w9 hown1 hg1 hn1 hat1; (obtain ⟨q2, z2, hv1⟩ := rec_formT hown1); subst hv1; have HPW1 := Lib.hid hown1; have HGR := Lib.hid hg1; clear hown1 hg1 hn1 hat1)
                have HBZ := Lib.hid (HB1.out.grown HGR.out HB1.out.size (fun b hb => (recs_base HP1.out hb).1))
                have HTIZ := Lib.hid (fun x hx => ((HTI9.out x hx).below HBN.out).grown HP1.out HGR.out (by decide) (by decide))
                have HTYZ := Lib.hid ((HTY9.out.below HBN.out).grown HP1.out HGR.out (by decide) (by decide))
                have HOZ := Lib.hid (own_apartT (recs_below HOW1.out HBN.out) HP1.out HGR.out (by decide))
                clear HB1 HP1 HL2 HBN HGR HTI9 HTY9 HPO9 HB9 HOW1 hc
                generalize w9 = wz at *
                have HT2 : Hid (Dk.tksI day loc fl ts z 0 (l.take (k + 1)) = Dk.tksI day loc fl ts z 0 (l.take k) ++ [Dk.tkI day loc fl ts z k y]) := Lib.hid (by rw [Tkt.take_snocT HY.out, Dk.tksI_snoc, List.length_take, Nat.zero_add, show min k l.length = k by have := HNL.out; omega])
                go_wp2_with fail
                go_roundw
                case rel =>
                  refine ⟨k + 1, q1, q2, z1, z2, rs ++ [yr], by omega, rfl, rfl, by go_num, HOZ.out, ?_, ?_, ?_, HBZ.out⟩
                  · rw [List.map_append, HRS.out, HT2.out, List.map_cons, List.map_nil, HYT.out, HTKI.out]
                  · intro x hx; rcases List.mem_append.1 hx with hx | hx
                    · exact HTIZ.out x hx
                    · obtain rfl := List.mem_singleton.1 hx; exact HTYZ.out
                  · rw [HT2.out, List.map_append]; exact HPW1.out
                case measure => simp [intOf]; omega
            · have HXT := Lib.hid (HX.out.below (HB.out.trans (HBD.out.mono HGE.out)))
              have kx := fun i => cell_of_row wr gx i _ _ _ HBX.out
              have HTM : Hid (ts.length ≤ 4) := Lib.hid (Dk.taxed_am H2.out).2
              go_upto_region 19 with (at_builtin; (refine wpList_append_recs elemTx rfl _ _ rfl (gx + 1) _ 0 [] rfl (World.ownsRow_nil _ _ _ _) _ ts rfl HXT.out (by have := HTM.out; omega) (block_lt HBX.out) ?_); intro v1 w9 hown1 hg1 hn1 hat1; (rw [Nat.zero_add, List.nil_append] at hown1); (obtain ⟨xq, xz, hv1⟩ := rec_formT hown1); subst hv1; have HXO := Lib.hid hown1; have HGR := Lib.hid hg1; have HBX9 := Lib.hid ((hg1.block gx (block_lt HBX.out) (fun e => by cases e)).trans HBX.out); clear hown1 hg1 hn1 hat1; have kf := fun i => frozen_of_row w9 gx i _ _ HBX9.out; have k9 := fun i => cell_of_row w9 gx i _ _ _ HBX9.out)
              clear kx kf k9 HXT
              replace HOC := Lib.hid (own_apartT HOC.out (show World.ownsRow wr (gx + 1) 56 2 (.slice none 0 0) 0 [] from World.ownsRow_nil _ _ _ _) HGR.out (by decide))
              have HON := Lib.hid ((Only.refl gx w9).setCell 4 (.slice xq ts.length xz))
              have HBX6 := Lib.hid (heap_setCell_same _ _ 4 _ _ (.slice xq ts.length xz) HBX9.out)
              replace HOC := Lib.hid (recs_only HOC.out (fun b hb => by have := (recs_base HOC.out hb).1; omega) HON.out)
              replace HXO := Lib.hid (recs_only HXO.out (fun b hb => by have := (recs_base HXO.out hb).1; omega) HON.out)
              replace HBD := Lib.hid ((HBD.out.grown HGR.out (Nat.le_of_lt (block_lt HBX.out)) (fun b hb => by cases hb)).setCell (p := ⟨gx, 4, none⟩) (Nat.le_refl _) (.slice xq ts.length xz))
              clear HON HGR HBX9 HBX
              generalize w9.setCell ⟨gx, 4, none⟩ (.slice xq ts.length xz) = w6 at *
              obtain ⟨tk, htk⟩ : ∃ tk, ts = tk := ⟨_, rfl⟩
              have HTK : Hid ((if k = 0 then ts else []) = tk) := Lib.hid (by rw [if_pos (by simpa using hb0), htk])
              rw [htk] at HXO
              replace HBX6 : Hid (w6.heap[gx]? = some (.cells #[.int .u64 y, .string loc, .int .i64 day, .slice cq cs.length cc, .slice xq tk.length xz, .int .u64 0, .int .u64 y, .int .u64 z, .int .i64 0, .int .i64 1, .slice none 0 0] 45 (0, 0))) := Lib.hid (by rw [← htk]; exact HBX6.out)
              (try rw [htk])
              clear htk
              have HTX : Hid ((∀ t ∈ tk, 0 ≤ t.am ∧ t.am ≤ 1000000000000) ∧ (∀ t ∈ tk, t.wf) ∧ tk.length ≤ 4) := Lib.hid (by
                have h1 := Dk.taxed_am H2.out
                have h2 := Dk.taxed_wf H2.out
                have h3 := HTK.out
                by_cases hk0 : k = 0
                · rw [if_pos hk0] at h3; rw [← h3]; exact ⟨h1.1, h2, h1.2⟩
                · rw [if_neg hk0] at h3; rw [← h3]; exact ⟨by simp, by simp, by simp⟩)
              have HVV : Hid (0 ≤ Dk.valN [1] cs ∧ Dk.valN [1] cs ≤ 4000000000000) := Lib.hid (by have h := Dk.valN_bound [1] cs (fun c hc => (HVB.out c hc).1); have := HCL.out; omega)
              have HTT : Hid (0 ≤ Tkt.taxI tk ∧ Tkt.taxI tk ≤ 4000000000000) := Lib.hid (by have h := Tkt.taxI_bound tk HTX.out.1; have := HTX.out.2.2; omega)
              have HTKI : Hid (Dk.tkI day loc fl ts z k y = ⟨y, loc, day, cs, tk, 0, y, z, 0, 1, []⟩) := Lib.hid (by unfold Dk.tkI; rw [HCS.out, HTK.out])
              have HVC := Lib.hid (fun W (po : Option Addr) (no co : Nat) hl ho => rworth15_any ⟨y, loc, day, cs, tk, 0, y, z, 0, 1, []⟩ ⟨cq, cs.length, cc⟩ ⟨xq, tk.length, xz⟩ ⟨none, 0, 0⟩ [1] po no co W hl (fun c hc => (HVB.out c hc).1) (by have := HCL.out; show cs.length ≤ 1000; omega) ho)
              have HTC := Lib.hid (fun W hl => rtaxB_any ⟨y, loc, day, cs, tk, 0, y, z, 0, 1, []⟩ ⟨cq, cs.length, cc⟩ ⟨xq, tk.length, xz⟩ ⟨none, 0, 0⟩ W hl HTX.out.1 (by have := HTX.out.2.2; show tk.length ≤ 1000; omega))
              obtain ⟨vv, hvv⟩ : ∃ v, Dk.valN [1] cs = v := ⟨_, rfl⟩
              obtain ⟨xx, hxx⟩ : ∃ v, Tkt.taxI tk = v := ⟨_, rfl⟩
              dsimp only at HVC HTC
              rw [hvv] at HVC HVV
              rw [hxx] at HTC HTT
              have HVE := Lib.hid hvv; have HXE := Lib.hid hxx
              clear hvv hxx
              refine wp_region_rel (T := fun A B => Below A.heap.size A B) (G := fun W => Below w6.heap.size w6 W) (R := fun k => match k with | 0 => fun v _ => v = .agg #[.int .u64 y, .string loc, .int .i64 day, .slice cq cs.length cc, .slice xq tk.length xz, .int .u64 0, .int .u64 y, .int .u64 z, .int .i64 0, .int .i64 1, .slice none 0 0] | 1 => fun v W => LS stC 1 W v [1] | 2 => fun v _ => v = .int .i64 vv | 3 => fun v _ => v = .agg #[.int .u64 y, .string loc, .int .i64 day, .slice cq cs.length cc, .slice xq tk.length xz, .int .u64 0, .int .u64 y, .int .u64 z, .int .i64 0, .int .i64 1, .slice none 0 0] | 4 => fun v _ => v = .int .i64 xx | 5 => fun v _ => v = .int .i64 vv | 6 => fun v _ => v = .int .i64 xx | _ => fun _ _ => True) (by kernel_rfl) (by kernel_rfl) (by kernel_rfl) ?iT ((Below.refl _ _).drew) ?iS ?iD
              case iT =>
                intro k v A B hT h
                match k, h with
                | 0, h => exact h
                | 1, h => exact h.below hT
                | 2, h => exact h
                | 3, h => exact h
                | 4, h => exact h
                | 5, h => exact h
                | 6, h => exact h
                | _ + 7, h => exact trivial
              case iS =>
                refine ⟨?s0, ?s1, ?s2, ?s3, ?s4, ?s5, ?s6, trivial⟩
                case s0 =>
                  intro f W hG hW K hK
                  try dsimp only at hG
                  simp only [putF, Act.put, List.setIfInBounds_toArray, List.set_cons_zero, List.set_cons_succ, Nat.reduceAdd, Nat.zero_add] at hK ⊢
                  have hrw := (hG.block _ (block_lt HBX6.out)).trans HBX6.out
                  obtain ⟨f1, f2⟩ := row_loT 11 hrw rfl rfl
                  clear hW
                  go_simp
                  refine hK.out _ _ (Below.refl _ _) hG ?_
                  with_reducible rfl
                case s1 =>
                  intro f W hG hW K hK
                  try dsimp only at hG
                  simp only [putF, Act.put, List.setIfInBounds_toArray, List.set_cons_zero, List.set_cons_succ, Nat.reduceAdd, Nat.zero_add] at hK ⊢
                  clear hW
                  go_simp
                  refine hK.out _ _ ((Below.refl _ _).alloc (Nat.le_refl _) _) (hG.alloc hG.size _) ?_
                  exact row_one (enc := stC) (x := (1 : Int)) (new_rowW _ _ _ rfl) rfl (fun _ => rfl) (by decide)
                case s2 =>
                  intro f W hG hW K hK
                  try dsimp only at hG
                  have e0 := hW 0 (by kernel_rfl)
                  change f 0 = .agg #[.int .u64 y, .string loc, .int .i64 day, .slice cq cs.length cc, .slice xq tk.length xz, .int .u64 0, .int .u64 y, .int .u64 z, .int .i64 0, .int .i64 1, .slice none 0 0] at e0
                  have e1 := hW 1 (by kernel_rfl)
                  try dsimp only at e1
                  simp only [putF, Act.put, List.setIfInBounds_toArray, List.set_cons_zero, List.set_cons_succ, Nat.reduceAdd, Nat.zero_add] at hK ⊢
                  (try rw [e0])
                  (try rw [e0] at hK)
                  obtain ⟨qs, zs, hqs⟩ := e1.shape
                  rw [hqs] at e1
                  simp only [hqs] at hK ⊢
                  clear hW
                  go_simp
                  refine (HVC.out W qs _ zs ((LS.of_own HOC.out Cpn.cells_length (by decide)).below hG) e1).mono ?_
                  rintro e w' ⟨rfl, hb⟩
                  exact hK.out _ _ hb (hG.trans (hb.mono hG.size)) rfl
                case s3 =>
                  intro f W hG hW K hK
                  try dsimp only at hG
                  simp only [putF, Act.put, List.setIfInBounds_toArray, List.set_cons_zero, List.set_cons_succ, Nat.reduceAdd, Nat.zero_add] at hK ⊢
                  have hrw := (hG.block _ (block_lt HBX6.out)).trans HBX6.out
                  obtain ⟨f1, f2⟩ := row_loT 11 hrw rfl rfl
                  clear hW
                  go_simp
                  refine hK.out _ _ (Below.refl _ _) hG ?_
                  with_reducible rfl
                case s4 =>
                  intro f W hG hW K hK
                  try dsimp only at hG
                  have e2 := hW 2 (by kernel_rfl)
                  change f 2 = .int .i64 vv at e2
                  have e3 := hW 3 (by kernel_rfl)
                  change f 3 = .agg #[.int .u64 y, .string loc, .int .i64 day, .slice cq cs.length cc, .slice xq tk.length xz, .int .u64 0, .int .u64 y, .int .u64 z, .int .i64 0, .int .i64 1, .slice none 0 0] at e3
                  simp only [putF, Act.put, List.setIfInBounds_toArray, List.set_cons_zero, List.set_cons_succ, Nat.reduceAdd, Nat.zero_add] at hK ⊢
                  (try rw [e2])
                  (try rw [e2] at hK)
                  (try rw [e3])
                  (try rw [e3] at hK)
                  clear hW
                  go_simp
                  refine (HTC.out W ((LS.of_own HXO.out Txx.cells_length (by decide)).below hG)).mono ?_
                  rintro e w' ⟨rfl, hb⟩
                  exact hK.out _ _ hb (hG.trans (hb.mono hG.size)) rfl
                case s5 =>
                  intro f W hG hW K hK
                  try dsimp only at hG
                  have e0 := hW 0 (by kernel_rfl)
                  change f 0 = .agg #[.int .u64 y, .string loc, .int .i64 day, .slice cq cs.length cc, .slice xq tk.length xz, .int .u64 0, .int .u64 y, .int .u64 z, .int .i64 0, .int .i64 1, .slice none 0 0] at e0
                  have e1 := hW 1 (by kernel_rfl)
                  try dsimp only at e1
                  have e2 := hW 2 (by kernel_rfl)
                  change f 2 = .int .i64 vv at e2
                  have e4 := hW 4 (by kernel_rfl)
                  change f 4 = .int .i64 xx at e4
                  simp only [putF, Act.put, List.setIfInBounds_toArray, List.set_cons_zero, List.set_cons_succ, Nat.reduceAdd, Nat.zero_add] at hK ⊢
                  (try rw [e0])
                  (try rw [e0] at hK)
                  (try rw [e2])
                  (try rw [e2] at hK)
                  (try rw [e4])
                  (try rw [e4] at hK)
                  clear hW
                  go_simp
                  refine hK.out _ _ (Below.refl _ _) hG ?_
                  first | exact trivial | with_reducible rfl | rfl
                case s6 =>
                  intro f W hG hW K hK
                  try dsimp only at hG
                  have e0 := hW 0 (by kernel_rfl)
                  change f 0 = .agg #[.int .u64 y, .string loc, .int .i64 day, .slice cq cs.length cc, .slice xq tk.length xz, .int .u64 0, .int .u64 y, .int .u64 z, .int .i64 0, .int .i64 1, .slice none 0 0] at e0
                  have e1 := hW 1 (by kernel_rfl)
                  try dsimp only at e1
                  have e2 := hW 2 (by kernel_rfl)
                  change f 2 = .int .i64 vv at e2
                  have e3 := hW 3 (by kernel_rfl)
                  change f 3 = .agg #[.int .u64 y, .string loc, .int .i64 day, .slice cq cs.length cc, .slice xq tk.length xz, .int .u64 0, .int .u64 y, .int .u64 z, .int .i64 0, .int .i64 1, .slice none 0 0] at e3
                  have e4 := hW 4 (by kernel_rfl)
                  change f 4 = .int .i64 xx at e4
                  have e5 := hW 5 (by kernel_rfl)
                  change f 5 = .int .i64 vv at e5
                  simp only [putF, Act.put, List.setIfInBounds_toArray, List.set_cons_zero, List.set_cons_succ, Nat.reduceAdd, Nat.zero_add] at hK ⊢
                  (try rw [e0])
                  (try rw [e0] at hK)
                  (try rw [e2])
                  (try rw [e2] at hK)
                  (try rw [e3])
                  (try rw [e3] at hK)
                  (try rw [e4])
                  (try rw [e4] at hK)
                  (try rw [e5])
                  (try rw [e5] at hK)
                  clear hW
                  go_simp
                  refine hK.out _ _ (Below.refl _ _) hG ?_
                  first | exact trivial | with_reducible rfl | rfl
              case iD =>
                intro f W hG hR
                try dsimp only at hG
                have r0 := hR 0 (by decide)
                change f 0 = .agg #[.int .u64 y, .string loc, .int .i64 day, .slice cq cs.length cc, .slice xq tk.length xz, .int .u64 0, .int .u64 y, .int .u64 z, .int .i64 0, .int .i64 1, .slice none 0 0] at r0
                have r1 := hR 1 (by decide)
                try dsimp only at r1
                have r2 := hR 2 (by decide)
                change f 2 = .int .i64 vv at r2
                have r3 := hR 3 (by decide)
                change f 3 = .agg #[.int .u64 y, .string loc, .int .i64 day, .slice cq cs.length cc, .slice xq tk.length xz, .int .u64 0, .int .u64 y, .int .u64 z, .int .i64 0, .int .i64 1, .slice none 0 0] at r3
                have r4 := hR 4 (by decide)
                change f 4 = .int .i64 xx at r4
                have r5 := hR 5 (by decide)
                change f 5 = .int .i64 vv at r5
                have r6 := hR 6 (by decide)
                change f 6 = .int .i64 xx at r6
                clear hR
                simp only [putF, Act.put, List.setIfInBounds_toArray, List.set_cons_zero, List.set_cons_succ, Nat.reduceAdd, Nat.zero_add]
                (try rw [r0])
                (try rw [r2])
                (try rw [r3])
                (try rw [r4])
                (try rw [r5])
                (try rw [r6])
                clear r0 r1 r2 r3 r4 HVC HTC
                replace HBX6 := Lib.hid ((hG.block _ (block_lt HBX6.out)).trans HBX6.out)
                replace HOC := Lib.hid (recs_below HOC.out hG)
                replace HXO := Lib.hid (recs_below HXO.out hG)
                have HBF : Hid (Below wd.heap.size wd W) := Lib.hid (by rw [HGX.out]; exact HBD.out.trans (hG.mono (by have := HBD.out.size; have := HGX.out; omega)))
                replace HB := Lib.hid (HB.out.trans (HBF.out.mono HB.out.size))
                replace HO := Lib.hid (recs_below HO.out HBF.out)
                replace HTI := Lib.hid (fun x hx => (HTI.out x hx).below HBF.out)
                replace HPO := Lib.hid (recs_below HPO.out HBF.out)
                replace HOC := Lib.hid (own_monoT HOC.out (show w.heap.size ≤ gx + 1 by have := HGE.out; omega))
                replace HXO := Lib.hid (own_monoT HXO.out (show w.heap.size ≤ gx + 1 by have := HGE.out; omega))
                clear hG HBF HBD
                generalize W = w7 at *
                go_upto_region 20 with fail
                obtain ⟨f1, f2⟩ := row_loT 11 HBX6.out rfl rfl
                have HBN := Lib.hid ((Below.refl w7.heap.size w7).alloc (Nat.le_refl _) (.cells #[.int .u64 y, .string loc, .int .i64 day, .slice cq cs.length cc, .slice xq tk.length xz, .int .u64 0, .int .u64 y, .int .u64 z, .int .i64 0, .int .i64 1, .slice none 0 0] 45 (0, 0)))
                have HO1 := Lib.hid (recs_below HO.out HBN.out)
                obtain ⟨yr, hyr⟩ : ∃ yr : Tkr, yr = Tkr.mk ⟨y, loc, day, cs, tk, 0, y, z, 0, 1, []⟩ ⟨cq, cs.length, cc⟩ ⟨xq, tk.length, xz⟩ ⟨none, 0, 0⟩ := ⟨_, rfl⟩
                have HYC : Hid (yr.cells = [.int .u64 y, .string loc, .int .i64 day, .slice cq cs.length cc, .slice xq tk.length xz, .int .u64 0, .int .u64 y, .int .u64 z, .int .i64 0, .int .i64 1, .slice none 0 0]) := Lib.hid (by rw [hyr]; rfl)
                have HYT : Hid (yr.t = ⟨y, loc, day, cs, tk, 0, y, z, 0, 1, []⟩) := Lib.hid (by rw [hyr])
                have HTY : Hid (TR w.heap.size w7 yr) := Lib.hid (by rw [hyr]; exact ⟨HOC.out, HXO.out, ⟨rfl, rfl⟩, tkI_wf HYU.out HZU.out HDY.out hloc (fun c hc => (HVB.out c hc).2) HTX.out.2.1⟩)
                clear hyr
                have HL1 : Hid (LS Tkr.cells 11 (w7.alloc (.cells #[.int .u64 y, .string loc, .int .i64 day, .slice cq cs.length cc, .slice xq tk.length xz, .int .u64 0, .int .u64 y, .int .u64 z, .int .i64 0, .int .i64 1, .slice none 0 0] 45 (0, 0))) (.slice (some ⟨w7.heap.size, 0, none⟩) 1 1) [yr]) := Lib.hid (row_one (x := yr) (new_rowW _ _ _ rfl) (by rw [HYC.out]) Tkr.cells_length (by decide))
                have HB1 := Lib.hid (HB.out.trans (HBN.out.mono HB.out.size))
                go_upto_region 21 with (at_builtin; (refine wpList_append_recs elemTk rfl _ _ rfl w.heap.size _ k _ rfl HO1.out _ _ rfl HL1.out (by have := HK3.out; simp; omega) HB1.out.size ?_); intro v1 w9 hown1 hg1 hn1 hat1; (obtain ⟨q1, z1, hv1⟩ := rec_formT hown1); subst hv1; have HOW1 := Lib.hid hown1; have HGR := Lib.hid hg1; clear hown1 hg1 hn1 hat1)
                clear f1 f2
                have HB9 := Lib.hid (HB1.out.grown HGR.out HB1.out.size (fun b hb => (recs_base HO1.out hb).1))
                have HTI9 := Lib.hid (fun x hx => ((HTI.out x hx).below HBN.out).grown HO1.out HGR.out (by decide) (by decide))
                have HTY9 := Lib.hid ((HTY.out.below HBN.out).grown HO1.out HGR.out (by decide) (by decide))
                have HPO9 := Lib.hid (own_apartT (recs_below HPO.out HBN.out) HO1.out HGR.out (by decide))
                clear HB1 HO1 HL1 HBN HGR HTI HTY HPO HOC HXO HBX6 HB HO
                generalize w9 = wa at *
                obtain ⟨eb3, ef3, hp, hbl3, hr⟩ := (HL.out.below HB9.out).at HY.out
                injection hp with hp
                injection hp with hp2 hp3 _
                subst hp2 hp3
                have hc : wa.cell? ⟨eb, ef + k, none⟩ = some (.int .u64 y) := by have := hr 0 _ rfl; rwa [Nat.mul_one] at this
                clear hr
                have hvv1 := HVV.out.1; have hvv2 := HVV.out.2; have hxx1 := HTT.out.1; have hxx2 := HTT.out.2
                have HBN := Lib.hid ((Below.refl wa.heap.size wa).alloc (Nat.le_refl _) (.cells #[.int .i64 day, .int .u64 y, .int .i64 1, .int .i64 1, .int .i64 (vv + xx), .int .i64 (-vv), .int .i64 0, .int .i64 (-xx), .int .i64 0, .int .i64 0] 59 (0, 0)))
                have HP1 := Lib.hid (recs_below HPO9.out HBN.out)
                have HPE : Hid (Dk.poI day (Dk.tkI day loc fl ts z k y) = ⟨day, y, 1, 1, vv + xx, -vv, 0, -xx, 0, 0⟩) := Lib.hid (by rw [HTKI.out]; unfold Dk.poI; dsimp only; rw [HVE.out, HXE.out])
                have HL2 : Hid (LS Pst.cells 10 (wa.alloc (.cells #[.int .i64 day, .int .u64 y, .int .i64 1, .int .i64 1, .int .i64 (vv + xx), .int .i64 (-vv), .int .i64 0, .int .i64 (-xx), .int .i64 0, .int .i64 0] 59 (0, 0))) (.slice (some ⟨wa.heap.size, 0, none⟩) 1 1) [Dk.poI day (Dk.tkI day loc fl ts z k y)]) := Lib.hid (row_one (x := Dk.poI day (Dk.tkI day loc fl ts z k y)) (new_rowW _ _ _ rfl) (by rw [HPE.out]; rfl) (fun _ => rfl) (by decide))
                have HB1 := Lib.hid (HB9.out.trans (HBN.out.mono HB9.out.size))
                go_upto_region 9 with (at_builtin; (refine wpList_append_recs elemPd rfl _ _ rfl w.heap.size _ k _ rfl HP1.out _ _ rfl HL2.out (by have := HK3.out; simp; omega) HB1.out.size ?_); intro v1 w9 hown1 hg1 hn1 hat1; (obtain ⟨q2, z2, hv1⟩ := rec_formT hown1); subst hv1; have HPW1 := Lib.hid hown1; have HGR := Lib.hid hg1; clear hown1 hg1 hn1 hat1)
                have HBZ := Lib.hid (HB1.out.grown HGR.out HB1.out.size (fun b hb => (recs_base HP1.out hb).1))
                have HTIZ := Lib.hid (fun x hx => ((HTI9.out x hx).below HBN.out).grown HP1.out HGR.out (by decide) (by decide))
                have HTYZ := Lib.hid ((HTY9.out.below HBN.out).grown HP1.out HGR.out (by decide) (by decide))
                have HOZ := Lib.hid (own_apartT (recs_below HOW1.out HBN.out) HP1.out HGR.out (by decide))
                clear HB1 HP1 HL2 HBN HGR HTI9 HTY9 HPO9 HB9 HOW1 hc
                generalize w9 = wz at *
                have HT2 : Hid (Dk.tksI day loc fl ts z 0 (l.take (k + 1)) = Dk.tksI day loc fl ts z 0 (l.take k) ++ [Dk.tkI day loc fl ts z k y]) := Lib.hid (by rw [Tkt.take_snocT HY.out, Dk.tksI_snoc, List.length_take, Nat.zero_add, show min k l.length = k by have := HNL.out; omega])
                go_wp2_with fail
                go_roundw
                case rel =>
                  refine ⟨k + 1, q1, q2, z1, z2, rs ++ [yr], by omega, rfl, rfl, by go_num, HOZ.out, ?_, ?_, ?_, HBZ.out⟩
                  · rw [List.map_append, HRS.out, HT2.out, List.map_cons, List.map_nil, HYT.out, HTKI.out]
                  · intro x hx; rcases List.mem_append.1 hx with hx | hx
                    · exact HTIZ.out x hx
                    · obtain rfl := List.mem_singleton.1 hx; exact HTYZ.out
                  · rw [HT2.out, List.map_append]; exact HPW1.out
                case measure => simp [intOf]; omega
        · have h1x : ¬ ((4 * k + j : Nat) : Int) < 4 * (k : Int) + 4 := by omega
          have HCS : Hid (((fl.map Dk.soldC).drop (4 * k)).take j = ((fl.map Dk.soldC).drop (4 * k)).take 4) := Lib.hid (by
            by_cases h4 : j = 4
            · rw [h4]
            · rw [List.take_of_length_le (by rw [List.length_drop, List.length_map, ← HNF.out]; omega), List.take_of_length_le (by rw [List.length_drop, List.length_map, ← HNF.out]; omega)])
          rw [HCS.out] at HOC
          have HVB : Hid (∀ c ∈ ((fl.map Dk.soldC).drop (4 * k)).take 4, (0 ≤ c.va ∧ c.va ≤ 1000000000000) ∧ c.wf) := Lib.hid (fun c hc => by have hm := List.mem_of_mem_drop (List.mem_of_mem_take hc); exact ⟨Dk.row_va H1.out c hm, Dk.row_wf H1.out c hm⟩)
          have HCL : Hid ((((fl.map Dk.soldC).drop (4 * k)).take 4).length ≤ 4) := Lib.hid (List.length_take_le _ _)
          clear HCS
          generalize hcs : ((fl.map Dk.soldC).drop (4 * k)).take 4 = cs at *
          have HCS := Lib.hid hcs
          clear hcs
          have HJL := Lib.hid (recs_cases HOC.out Cpn.cells_length (by decide)).1
          generalize hkk : 4 * k + j = kk at *
          clear hkk hjn hj4
          go_upto_region 17 with fail
          (try clear h1x)
          (try clear h2x)
          (try clear hj)
          (try clear hjm)
          obtain ⟨cq, cc, hq⟩ : ∃ (cq : Option Addr) (cc : Nat), Value.slice q9 j c9 = .slice cq cs.length cc := ⟨q9, c9, by rw [HJL.out]⟩
          rw [hq] at HOC HBX
          rw [HJL.out] at HOC
          clear hq HJL
          obtain ⟨b0, hb0⟩ : ∃ b, ((k : Int) == 0) = b := ⟨_, rfl⟩
          cases b0
          · obtain ⟨xq, xz, tk, hx1, hx2, hx3⟩ : ∃ (xq : Option Addr) (xz : Nat) (tk : List Txx), (Value.slice none 0 0 = .slice xq tk.length xz) ∧ wr.ownsRow (gx + 1) 56 2 (.slice xq tk.length xz) tk.length (encL Txx.cells tk) ∧ (if k = 0 then ts else []) = tk := ⟨none, 0, [], rfl, World.ownsRow_nil _ _ _ _, by rw [if_neg (by simpa using hb0)]⟩
            have HBX6 : Hid (wr.heap[gx]? = some (.cells #[.int .u64 y, .string loc, .int .i64 day, .slice cq cs.length cc, .slice xq tk.length xz, .int .u64 0, .int .u64 y, .int .u64 z, .int .i64 0, .int .i64 1, .slice none 0 0] 45 (0, 0))) := Lib.hid (by rw [← hx1]; exact HBX.out)
            have HXO := Lib.hid hx2; have HTK := Lib.hid hx3
            clear hx1 hx2 hx3 HBX
            go_upto_region 19 with fail
            generalize wr = w6 at *
            have HTX : Hid ((∀ t ∈ tk, 0 ≤ t.am ∧ t.am ≤ 1000000000000) ∧ (∀ t ∈ tk, t.wf) ∧ tk.length ≤ 4) := Lib.hid (by
              have h1 := Dk.taxed_am H2.out
              have h2 := Dk.taxed_wf H2.out
              have h3 := HTK.out
              by_cases hk0 : k = 0
              · rw [if_pos hk0] at h3; rw [← h3]; exact ⟨h1.1, h2, h1.2⟩
              · rw [if_neg hk0] at h3; rw [← h3]; exact ⟨by simp, by simp, by simp⟩)
            have HVV : Hid (0 ≤ Dk.valN [1] cs ∧ Dk.valN [1] cs ≤ 4000000000000) := Lib.hid (by have h := Dk.valN_bound [1] cs (fun c hc => (HVB.out c hc).1); have := HCL.out; omega)
            have HTT : Hid (0 ≤ Tkt.taxI tk ∧ Tkt.taxI tk ≤ 4000000000000) := Lib.hid (by have h := Tkt.taxI_bound tk HTX.out.1; have := HTX.out.2.2; omega)
            have HTKI : Hid (Dk.tkI day loc fl ts z k y = ⟨y, loc, day, cs, tk, 0, y, z, 0, 1, []⟩) := Lib.hid (by unfold Dk.tkI; rw [HCS.out, HTK.out])
            have HVC := Lib.hid (fun W (po : Option Addr) (no co : Nat) hl ho => rworth15_any ⟨y, loc, day, cs, tk, 0, y, z, 0, 1, []⟩ ⟨cq, cs.length, cc⟩ ⟨xq, tk.length, xz⟩ ⟨none, 0, 0⟩ [1] po no co W hl (fun c hc => (HVB.out c hc).1) (by have := HCL.out; show cs.length ≤ 1000; omega) ho)
            have HTC := Lib.hid (fun W hl => rtaxB_any ⟨y, loc, day, cs, tk, 0, y, z, 0, 1, []⟩ ⟨cq, cs.length, cc⟩ ⟨xq, tk.length, xz⟩ ⟨none, 0, 0⟩ W hl HTX.out.1 (by have := HTX.out.2.2; show tk.length ≤ 1000; omega))
            obtain ⟨vv, hvv⟩ : ∃ v, Dk.valN [1] cs = v := ⟨_, rfl⟩
            obtain ⟨xx, hxx⟩ : ∃ v, Tkt.taxI tk = v := ⟨_, rfl⟩
            dsimp only at HVC HTC
            rw [hvv] at HVC HVV
            rw [hxx] at HTC HTT
            have HVE := Lib.hid hvv; have HXE := Lib.hid hxx
            clear hvv hxx
            refine wp_region_rel (T := fun A B => Below A.heap.size A B) (G := fun W => Below w6.heap.size w6 W) (R := fun k => match k with | 0 => fun v _ => v = .agg #[.int .u64 y, .string loc, .int .i64 day, .slice cq cs.length cc, .slice xq tk.length xz, .int .u64 0, .int .u64 y, .int .u64 z, .int .i64 0, .int .i64 1, .slice none 0 0] | 1 => fun v W => LS stC 1 W v [1] | 2 => fun v _ => v = .int .i64 vv | 3 => fun v _ => v = .agg #[.int .u64 y, .string loc, .int .i64 day, .slice cq cs.length cc, .slice xq tk.length xz, .int .u64 0, .int .u64 y, .int .u64 z, .int .i64 0, .int .i64 1, .slice none 0 0] | 4 => fun v _ => v = .int .i64 xx | 5 => fun v _ => v = .int .i64 vv | 6 => fun v _ => v = .int .i64 xx | _ => fun _ _ => True) (by kernel_rfl) (by kernel_rfl) (by kernel_rfl) ?iT ((Below.refl _ _).drew) ?iS ?iD
            case iT =>
              intro k v A B hT h
              match k, h with
              | 0, h => exact h
              | 1, h => exact h.below hT
              | 2, h => exact h
              | 3, h => exact h
              | 4, h => exact h
              | 5, h => exact h
              | 6, h => exact h
              | _ + 7, h => exact trivial
            case iS =>
              refine ⟨?s0, ?s1, ?s2, ?s3, ?s4, ?s5, ?s6, trivial⟩
              case s0 =>
                intro f W hG hW K hK
                try dsimp only at hG
                simp only [putF, Act.put, List.setIfInBounds_toArray, List.set_cons_zero, List.set_cons_succ, Nat.reduceAdd, Nat.zero_add] at hK ⊢
                have hrw := (hG.block _ (block_lt HBX6.out)).trans HBX6.out
                obtain ⟨f1, f2⟩ := row_loT 11 hrw rfl rfl
                clear hW
                go_simp
                refine hK.out _ _ (Below.refl _ _) hG ?_
                with_reducible rfl
              case s1 =>
                intro f W hG hW K hK
                try dsimp only at hG
                simp only [putF, Act.put, List.setIfInBounds_toArray, List.set_cons_zero, List.set_cons_succ, Nat.reduceAdd, Nat.zero_add] at hK ⊢
                clear hW
                go_simp
                refine hK.out _ _ ((Below.refl _ _).alloc (Nat.le_refl _) _) (hG.alloc hG.size _) ?_
                exact row_one (enc := stC) (x := (1 : Int)) (new_rowW _ _ _ rfl) rfl (fun _ => rfl) (by decide)
              case s2 =>
                intro f W hG hW K hK
                try dsimp only at hG
                have e0 := hW 0 (by kernel_rfl)
                change f 0 = .agg #[.int .u64 y, .string loc, .int .i64 day, .slice cq cs.length cc, .slice xq tk.length xz, .int .u64 0, .int .u64 y, .int .u64 z, .int .i64 0, .int .i64 1, .slice none 0 0] at e0
                have e1 := hW 1 (by kernel_rfl)
                try dsimp only at e1
                simp only [putF, Act.put, List.setIfInBounds_toArray, List.set_cons_zero, List.set_cons_succ, Nat.reduceAdd, Nat.zero_add] at hK ⊢
                (try rw [e0])
                (try rw [e0] at hK)
                obtain ⟨qs, zs, hqs⟩ := e1.shape
                rw [hqs] at e1
                simp only [hqs] at hK ⊢
                clear hW
                go_simp
                refine (HVC.out W qs _ zs ((LS.of_own HOC.out Cpn.cells_length (by decide)).below hG) e1).mono ?_
                rintro e w' ⟨rfl, hb⟩
                exact hK.out _ _ hb (hG.trans (hb.mono hG.size)) rfl
              case s3 =>
                intro f W hG hW K hK
                try dsimp only at hG
                simp only [putF, Act.put, List.setIfInBounds_toArray, List.set_cons_zero, List.set_cons_succ, Nat.reduceAdd, Nat.zero_add] at hK ⊢
                have hrw := (hG.block _ (block_lt HBX6.out)).trans HBX6.out
                obtain ⟨f1, f2⟩ := row_loT 11 hrw rfl rfl
                clear hW
                go_simp
                refine hK.out _ _ (Below.refl _ _) hG ?_
                with_reducible rfl
              case s4 =>
                intro f W hG hW K hK
                try dsimp only at hG
                have e2 := hW 2 (by kernel_rfl)
                change f 2 = .int .i64 vv at e2
                have e3 := hW 3 (by kernel_rfl)
                change f 3 = .agg #[.int .u64 y, .string loc, .int .i64 day, .slice cq cs.length cc, .slice xq tk.length xz, .int .u64 0, .int .u64 y, .int .u64 z, .int .i64 0, .int .i64 1, .slice none 0 0] at e3
                simp only [putF, Act.put, List.setIfInBounds_toArray, List.set_cons_zero, List.set_cons_succ, Nat.reduceAdd, Nat.zero_add] at hK ⊢
                (try rw [e2])
                (try rw [e2] at hK)
                (try rw [e3])
                (try rw [e3] at hK)
                clear hW
                go_simp
                refine (HTC.out W ((LS.of_own HXO.out Txx.cells_length (by decide)).below hG)).mono ?_
                rintro e w' ⟨rfl, hb⟩
                exact hK.out _ _ hb (hG.trans (hb.mono hG.size)) rfl
              case s5 =>
                intro f W hG hW K hK
                try dsimp only at hG
                have e0 := hW 0 (by kernel_rfl)
                change f 0 = .agg #[.int .u64 y, .string loc, .int .i64 day, .slice cq cs.length cc, .slice xq tk.length xz, .int .u64 0, .int .u64 y, .int .u64 z, .int .i64 0, .int .i64 1, .slice none 0 0] at e0
                have e1 := hW 1 (by kernel_rfl)
                try dsimp only at e1
                have e2 := hW 2 (by kernel_rfl)
                change f 2 = .int .i64 vv at e2
                have e4 := hW 4 (by kernel_rfl)
                change f 4 = .int .i64 xx at e4
                simp only [putF, Act.put, List.setIfInBounds_toArray, List.set_cons_zero, List.set_cons_succ, Nat.reduceAdd, Nat.zero_add] at hK ⊢
                (try rw [e0])
                (try rw [e0] at hK)
                (try rw [e2])
                (try rw [e2] at hK)
                (try rw [e4])
                (try rw [e4] at hK)
                clear hW
                go_simp
                refine hK.out _ _ (Below.refl _ _) hG ?_
                first | exact trivial | with_reducible rfl | rfl
              case s6 =>
                intro f W hG hW K hK
                try dsimp only at hG
                have e0 := hW 0 (by kernel_rfl)
                change f 0 = .agg #[.int .u64 y, .string loc, .int .i64 day, .slice cq cs.length cc, .slice xq tk.length xz, .int .u64 0, .int .u64 y, .int .u64 z, .int .i64 0, .int .i64 1, .slice none 0 0] at e0
                have e1 := hW 1 (by kernel_rfl)
                try dsimp only at e1
                have e2 := hW 2 (by kernel_rfl)
                change f 2 = .int .i64 vv at e2
                have e3 := hW 3 (by kernel_rfl)
                change f 3 = .agg #[.int .u64 y, .string loc, .int .i64 day, .slice cq cs.length cc, .slice xq tk.length xz, .int .u64 0, .int .u64 y, .int .u64 z, .int .i64 0, .int .i64 1, .slice none 0 0] at e3
                have e4 := hW 4 (by kernel_rfl)
                change f 4 = .int .i64 xx at e4
                have e5 := hW 5 (by kernel_rfl)
                change f 5 = .int .i64 vv at e5
                simp only [putF, Act.put, List.setIfInBounds_toArray, List.set_cons_zero, List.set_cons_succ, Nat.reduceAdd, Nat.zero_add] at hK ⊢
                (try rw [e0])
                (try rw [e0] at hK)
                (try rw [e2])
                (try rw [e2] at hK)
                (try rw [e3])
                (try rw [e3] at hK)
                (try rw [e4])
                (try rw [e4] at hK)
                (try rw [e5])
                (try rw [e5] at hK)
                clear hW
                go_simp
                refine hK.out _ _ (Below.refl _ _) hG ?_
                first | exact trivial | with_reducible rfl | rfl
            case iD =>
              intro f W hG hR
              try dsimp only at hG
              have r0 := hR 0 (by decide)
              change f 0 = .agg #[.int .u64 y, .string loc, .int .i64 day, .slice cq cs.length cc, .slice xq tk.length xz, .int .u64 0, .int .u64 y, .int .u64 z, .int .i64 0, .int .i64 1, .slice none 0 0] at r0
              have r1 := hR 1 (by decide)
              try dsimp only at r1
              have r2 := hR 2 (by decide)
              change f 2 = .int .i64 vv at r2
              have r3 := hR 3 (by decide)
              change f 3 = .agg #[.int .u64 y, .string loc, .int .i64 day, .slice cq cs.length cc, .slice xq tk.length xz, .int .u64 0, .int .u64 y, .int .u64 z, .int .i64 0, .int .i64 1, .slice none 0 0] at r3
              have r4 := hR 4 (by decide)
              change f 4 = .int .i64 xx at r4
              have r5 := hR 5 (by decide)
              change f 5 = .int .i64 vv at r5
              have r6 := hR 6 (by decide)
              change f 6 = .int .i64 xx at r6
              clear hR
              simp only [putF, Act.put, List.setIfInBounds_toArray, List.set_cons_zero, List.set_cons_succ, Nat.reduceAdd, Nat.zero_add]
              (try rw [r0])
              (try rw [r2])
              (try rw [r3])
              (try rw [r4])
              (try rw [r5])
              (try rw [r6])
              clear r0 r1 r2 r3 r4 HVC HTC
              replace HBX6 := Lib.hid ((hG.block _ (block_lt HBX6.out)).trans HBX6.out)
              replace HOC := Lib.hid (recs_below HOC.out hG)
              replace HXO := Lib.hid (recs_below HXO.out hG)
              have HBF : Hid (Below wd.heap.size wd W) := Lib.hid (by rw [HGX.out]; exact HBD.out.trans (hG.mono (by have := HBD.out.size; have := HGX.out; omega)))
              replace HB := Lib.hid (HB.out.trans (HBF.out.mono HB.out.size))
              replace HO := Lib.hid (recs_below HO.out HBF.out)
              replace HTI := Lib.hid (fun x hx => (HTI.out x hx).below HBF.out)
              replace HPO := Lib.hid (recs_below HPO.out HBF.out)
              replace HOC := Lib.hid (own_monoT HOC.out (show w.heap.size ≤ gx + 1 by have := HGE.out; omega))
              replace HXO := Lib.hid (own_monoT HXO.out (show w.heap.size ≤ gx + 1 by have := HGE.out; omega))
              clear hG HBF HBD
              generalize W = w7 at *
              go_upto_region 20 with fail
              obtain ⟨f1, f2⟩ := row_loT 11 HBX6.out rfl rfl
              have HBN := Lib.hid ((Below.refl w7.heap.size w7).alloc (Nat.le_refl _) (.cells #[.int .u64 y, .string loc, .int .i64 day, .slice cq cs.length cc, .slice xq tk.length xz, .int .u64 0, .int .u64 y, .int .u64 z, .int .i64 0, .int .i64 1, .slice none 0 0] 45 (0, 0)))
              have HO1 := Lib.hid (recs_below HO.out HBN.out)
              obtain ⟨yr, hyr⟩ : ∃ yr : Tkr, yr = Tkr.mk ⟨y, loc, day, cs, tk, 0, y, z, 0, 1, []⟩ ⟨cq, cs.length, cc⟩ ⟨xq, tk.length, xz⟩ ⟨none, 0, 0⟩ := ⟨_, rfl⟩
              have HYC : Hid (yr.cells = [.int .u64 y, .string loc, .int .i64 day, .slice cq cs.length cc, .slice xq tk.length xz, .int .u64 0, .int .u64 y, .int .u64 z, .int .i64 0, .int .i64 1, .slice none 0 0]) := Lib.hid (by rw [hyr]; rfl)
              have HYT : Hid (yr.t = ⟨y, loc, day, cs, tk, 0, y, z, 0, 1, []⟩) := Lib.hid (by rw [hyr])
              have HTY : Hid (TR w.heap.size w7 yr) := Lib.hid (by rw [hyr]; exact ⟨HOC.out, HXO.out, ⟨rfl, rfl⟩, tkI_wf HYU.out HZU.out HDY.out hloc (fun c hc => (HVB.out c hc).2) HTX.out.2.1⟩)
              clear hyr
              have HL1 : Hid (LS Tkr.cells 11 (w7.alloc (.cells #[.int .u64 y, .string loc, .int .i64 day, .slice cq cs.length cc, .slice xq tk.length xz, .int .u64 0, .int .u64 y, .int .u64 z, .int .i64 0, .int .i64 1, .slice none 0 0] 45 (0, 0))) (.slice (some ⟨w7.heap.size, 0, none⟩) 1 1) [yr]) := Lib.hid (row_one (x := yr) (new_rowW _ _ _ rfl) (by rw [HYC.out]) Tkr.cells_length (by decide))
              have HB1 := Lib.hid (HB.out.trans (HBN.out.mono HB.out.size))
              go_upto_region 21 with (at_builtin; (refine wpList_append_recs elemTk rfl _ _ rfl w.heap.size _ k _ rfl HO1.out _ _ rfl HL1.out (by have := HK3.out; simp; omega) HB1.out.size ?_); intro v1 w9 hown1 hg1 hn1 hat1; (obtain ⟨q1, z1, hv1⟩ := rec_formT hown1); subst hv1; have HOW1 := Lib.hid hown1; have HGR := Lib.hid hg1; clear hown1 hg1 hn1 hat1)
              clear f1 f2
              have HB9 := Lib.hid (HB1.out.grown HGR.out HB1.out.size (fun b hb => (recs_base HO1.out hb).1))
              have HTI9 := Lib.hid (fun x hx => ((HTI.out x hx).below HBN.out).grown HO1.out HGR.out (by decide) (by decide))
              have HTY9 := Lib.hid ((HTY.out.below HBN.out).grown HO1.out HGR.out (by decide) (by decide))
              have HPO9 := Lib.hid (own_apartT (recs_below HPO.out HBN.out) HO1.out HGR.out (by decide))
              clear HB1 HO1 HL1 HBN HGR HTI HTY HPO HOC HXO HBX6 HB HO
              generalize w9 = wa at *
              obtain ⟨eb3, ef3, hp, hbl3, hr⟩ := (HL.out.below HB9.out).at HY.out
              injection hp with hp
              injection hp with hp2 hp3 _
              subst hp2 hp3
              have hc : wa.cell? ⟨eb, ef + k, none⟩ = some (.int .u64 y) := by have := hr 0 _ rfl; rwa [Nat.mul_one] at this
              clear hr
              have hvv1 := HVV.out.1; have hvv2 := HVV.out.2; have hxx1 := HTT.out.1; have hxx2 := HTT.out.2
              have HBN := Lib.hid ((Below.refl wa.heap.size wa).alloc (Nat.le_refl _) (.cells #[.int .i64 day, .int .u64 y, .int .i64 1, .int .i64 1, .int .i64 (vv + xx), .int .i64 (-vv), .int .i64 0, .int .i64 (-xx), .int .i64 0, .int .i64 0] 59 (0, 0)))
              have HP1 := Lib.hid (recs_below HPO9.out HBN.out)
              have HPE : Hid (Dk.poI day (Dk.tkI day loc fl ts z k y) = ⟨day, y, 1, 1, vv + xx, -vv, 0, -xx, 0, 0⟩) := Lib.hid (by rw [HTKI.out]; unfold Dk.poI; dsimp only; rw [HVE.out, HXE.out])
              have HL2 : Hid (LS Pst.cells 10 (wa.alloc (.cells #[.int .i64 day, .int .u64 y, .int .i64 1, .int .i64 1, .int .i64 (vv + xx), .int .i64 (-vv), .int .i64 0, .int .i64 (-xx), .int .i64 0, .int .i64 0] 59 (0, 0))) (.slice (some ⟨wa.heap.size, 0, none⟩) 1 1) [Dk.poI day (Dk.tkI day loc fl ts z k y)]) := Lib.hid (row_one (x := Dk.poI day (Dk.tkI day loc fl ts z k y)) (new_rowW _ _ _ rfl) (by rw [HPE.out]; rfl) (fun _ => rfl) (by decide))
              have HB1 := Lib.hid (HB9.out.trans (HBN.out.mono HB9.out.size))
              go_upto_region 9 with (at_builtin; (refine wpList_append_recs elemPd rfl _ _ rfl w.heap.size _ k _ rfl HP1.out _ _ rfl HL2.out (by have := HK3.out; simp; omega) HB1.out.size ?_); intro v1 w9 hown1 hg1 hn1 hat1; (obtain ⟨q2, z2, hv1⟩ := rec_formT hown1); subst hv1; have HPW1 := Lib.hid hown1; have HGR := Lib.hid hg1; clear hown1 hg1 hn1 hat1)
              have HBZ := Lib.hid (HB1.out.grown HGR.out HB1.out.size (fun b hb => (recs_base HP1.out hb).1))
              have HTIZ := Lib.hid (fun x hx => ((HTI9.out x hx).below HBN.out).grown HP1.out HGR.out (by decide) (by decide))
              have HTYZ := Lib.hid ((HTY9.out.below HBN.out).grown HP1.out HGR.out (by decide) (by decide))
              have HOZ := Lib.hid (own_apartT (recs_below HOW1.out HBN.out) HP1.out HGR.out (by decide))
              clear HB1 HP1 HL2 HBN HGR HTI9 HTY9 HPO9 HB9 HOW1 hc
              generalize w9 = wz at *
              have HT2 : Hid (Dk.tksI day loc fl ts z 0 (l.take (k + 1)) = Dk.tksI day loc fl ts z 0 (l.take k) ++ [Dk.tkI day loc fl ts z k y]) := Lib.hid (by rw [Tkt.take_snocT HY.out, Dk.tksI_snoc, List.length_take, Nat.zero_add, show min k l.length = k by have := HNL.out; omega])
              go_wp2_with fail
              go_roundw
              case rel =>
                refine ⟨k + 1, q1, q2, z1, z2, rs ++ [yr], by omega, rfl, rfl, by go_num, HOZ.out, ?_, ?_, ?_, HBZ.out⟩
                · rw [List.map_append, HRS.out, HT2.out, List.map_cons, List.map_nil, HYT.out, HTKI.out]
                · intro x hx; rcases List.mem_append.1 hx with hx | hx
                  · exact HTIZ.out x hx
                  · obtain rfl := List.mem_singleton.1 hx; exact HTYZ.out
                · rw [HT2.out, List.map_append]; exact HPW1.out
              case measure => simp [intOf]; omega
          · have HXT := Lib.hid (HX.out.below (HB.out.trans (HBD.out.mono HGE.out)))
            have kx := fun i => cell_of_row wr gx i _ _ _ HBX.out
            have HTM : Hid (ts.length ≤ 4) := Lib.hid (Dk.taxed_am H2.out).2
            go_upto_region 19 with (at_builtin; (refine wpList_append_recs elemTx rfl _ _ rfl (gx + 1) _ 0 [] rfl (World.ownsRow_nil _ _ _ _) _ ts rfl HXT.out (by have := HTM.out; omega) (block_lt HBX.out) ?_); intro v1 w9 hown1 hg1 hn1 hat1; (rw [Nat.zero_add, List.nil_append] at hown1); (obtain ⟨xq, xz, hv1⟩ := rec_formT hown1); subst hv1; have HXO := Lib.hid hown1; have HGR := Lib.hid hg1; have HBX9 := Lib.hid ((hg1.block gx (block_lt HBX.out) (fun e => by cases e)).trans HBX.out); clear hown1 hg1 hn1 hat1; have kf := fun i => frozen_of_row w9 gx i _ _ HBX9.out; have k9 := fun i => cell_of_row w9 gx i _ _ _ HBX9.out)
            clear kx kf k9 HXT
            replace HOC := Lib.hid (own_apartT HOC.out (show World.ownsRow wr (gx + 1) 56 2 (.slice none 0 0) 0 [] from World.ownsRow_nil _ _ _ _) HGR.out (by decide))
            have HON := Lib.hid ((Only.refl gx w9).setCell 4 (.slice xq ts.length xz))
            have HBX6 := Lib.hid (heap_setCell_same _ _ 4 _ _ (.slice xq ts.length xz) HBX9.out)
            replace HOC := Lib.hid (recs_only HOC.out (fun b hb => by have := (recs_base HOC.out hb).1; omega) HON.out)
            replace HXO := Lib.hid (recs_only HXO.out (fun b hb => by have := (recs_base HXO.out hb).1; omega) HON.out)
            replace HBD := Lib.hid ((HBD.out.grown HGR.out (Nat.le_of_lt (block_lt HBX.out)) (fun b hb => by cases hb)).setCell (p := ⟨gx, 4, none⟩) (Nat.le_refl _) (.slice xq ts.length xz))
            clear HON HGR HBX9 HBX
            generalize w9.setCell ⟨gx, 4, none⟩ (.slice xq ts.length xz) = w6 at *
            obtain ⟨tk, htk⟩ : ∃ tk, ts = tk := ⟨_, rfl⟩
            have HTK : Hid ((if k = 0 then ts else []) = tk) := Lib.hid (by rw [if_pos (by simpa using hb0), htk])
            rw [htk] at HXO
            replace HBX6 : Hid (w6.heap[gx]? = some (.cells #[.int .u64 y, .string loc, .int .i64 day, .slice cq cs.length cc, .slice xq tk.length xz, .int .u64 0, .int .u64 y, .int .u64 z, .int .i64 0, .int .i64 1, .slice none 0 0] 45 (0, 0))) := Lib.hid (by rw [← htk]; exact HBX6.out)
            (try rw [htk])
            clear htk
            have HTX : Hid ((∀ t ∈ tk, 0 ≤ t.am ∧ t.am ≤ 1000000000000) ∧ (∀ t ∈ tk, t.wf) ∧ tk.length ≤ 4) := Lib.hid (by
              have h1 := Dk.taxed_am H2.out
              have h2 := Dk.taxed_wf H2.out
              have h3 := HTK.out
              by_cases hk0 : k = 0
              · rw [if_pos hk0] at h3; rw [← h3]; exact ⟨h1.1, h2, h1.2⟩
              · rw [if_neg hk0] at h3; rw [← h3]; exact ⟨by simp, by simp, by simp⟩)
            have HVV : Hid (0 ≤ Dk.valN [1] cs ∧ Dk.valN [1] cs ≤ 4000000000000) := Lib.hid (by have h := Dk.valN_bound [1] cs (fun c hc => (HVB.out c hc).1); have := HCL.out; omega)
            have HTT : Hid (0 ≤ Tkt.taxI tk ∧ Tkt.taxI tk ≤ 4000000000000) := Lib.hid (by have h := Tkt.taxI_bound tk HTX.out.1; have := HTX.out.2.2; omega)
            have HTKI : Hid (Dk.tkI day loc fl ts z k y = ⟨y, loc, day, cs, tk, 0, y, z, 0, 1, []⟩) := Lib.hid (by unfold Dk.tkI; rw [HCS.out, HTK.out])
            have HVC := Lib.hid (fun W (po : Option Addr) (no co : Nat) hl ho => rworth15_any ⟨y, loc, day, cs, tk, 0, y, z, 0, 1, []⟩ ⟨cq, cs.length, cc⟩ ⟨xq, tk.length, xz⟩ ⟨none, 0, 0⟩ [1] po no co W hl (fun c hc => (HVB.out c hc).1) (by have := HCL.out; show cs.length ≤ 1000; omega) ho)
            have HTC := Lib.hid (fun W hl => rtaxB_any ⟨y, loc, day, cs, tk, 0, y, z, 0, 1, []⟩ ⟨cq, cs.length, cc⟩ ⟨xq, tk.length, xz⟩ ⟨none, 0, 0⟩ W hl HTX.out.1 (by have := HTX.out.2.2; show tk.length ≤ 1000; omega))
            obtain ⟨vv, hvv⟩ : ∃ v, Dk.valN [1] cs = v := ⟨_, rfl⟩
            obtain ⟨xx, hxx⟩ : ∃ v, Tkt.taxI tk = v := ⟨_, rfl⟩
            dsimp only at HVC HTC
            rw [hvv] at HVC HVV
            rw [hxx] at HTC HTT
            have HVE := Lib.hid hvv; have HXE := Lib.hid hxx
            clear hvv hxx
            refine wp_region_rel (T := fun A B => Below A.heap.size A B) (G := fun W => Below w6.heap.size w6 W) (R := fun k => match k with | 0 => fun v _ => v = .agg #[.int .u64 y, .string loc, .int .i64 day, .slice cq cs.length cc, .slice xq tk.length xz, .int .u64 0, .int .u64 y, .int .u64 z, .int .i64 0, .int .i64 1, .slice none 0 0] | 1 => fun v W => LS stC 1 W v [1] | 2 => fun v _ => v = .int .i64 vv | 3 => fun v _ => v = .agg #[.int .u64 y, .string loc, .int .i64 day, .slice cq cs.length cc, .slice xq tk.length xz, .int .u64 0, .int .u64 y, .int .u64 z, .int .i64 0, .int .i64 1, .slice none 0 0] | 4 => fun v _ => v = .int .i64 xx | 5 => fun v _ => v = .int .i64 vv | 6 => fun v _ => v = .int .i64 xx | _ => fun _ _ => True) (by kernel_rfl) (by kernel_rfl) (by kernel_rfl) ?iT ((Below.refl _ _).drew) ?iS ?iD
            case iT =>
              intro k v A B hT h
              match k, h with
              | 0, h => exact h
              | 1, h => exact h.below hT
              | 2, h => exact h
              | 3, h => exact h
              | 4, h => exact h
              | 5, h => exact h
              | 6, h => exact h
              | _ + 7, h => exact trivial
            case iS =>
              refine ⟨?s0, ?s1, ?s2, ?s3, ?s4, ?s5, ?s6, trivial⟩
              case s0 =>
                intro f W hG hW K hK
                try dsimp only at hG
                simp only [putF, Act.put, List.setIfInBounds_toArray, List.set_cons_zero, List.set_cons_succ, Nat.reduceAdd, Nat.zero_add] at hK ⊢
                have hrw := (hG.block _ (block_lt HBX6.out)).trans HBX6.out
                obtain ⟨f1, f2⟩ := row_loT 11 hrw rfl rfl
                clear hW
                go_simp
                refine hK.out _ _ (Below.refl _ _) hG ?_
                with_reducible rfl
              case s1 =>
                intro f W hG hW K hK
                try dsimp only at hG
                simp only [putF, Act.put, List.setIfInBounds_toArray, List.set_cons_zero, List.set_cons_succ, Nat.reduceAdd, Nat.zero_add] at hK ⊢
                clear hW
                go_simp
                refine hK.out _ _ ((Below.refl _ _).alloc (Nat.le_refl _) _) (hG.alloc hG.size _) ?_
                exact row_one (enc := stC) (x := (1 : Int)) (new_rowW _ _ _ rfl) rfl (fun _ => rfl) (by decide)
              case s2 =>
                intro f W hG hW K hK
                try dsimp only at hG
                have e0 := hW 0 (by kernel_rfl)
                change f 0 = .agg #[.int .u64 y, .string loc, .int .i64 day, .slice cq cs.length cc, .slice xq tk.length xz, .int .u64 0, .int .u64 y, .int .u64 z, .int .i64 0, .int .i64 1, .slice none 0 0] at e0
                have e1 := hW 1 (by kernel_rfl)
                try dsimp only at e1
                simp only [putF, Act.put, List.setIfInBounds_toArray, List.set_cons_zero, List.set_cons_succ, Nat.reduceAdd, Nat.zero_add] at hK ⊢
                (try rw [e0])
                (try rw [e0] at hK)
                obtain ⟨qs, zs, hqs⟩ := e1.shape
                rw [hqs] at e1
                simp only [hqs] at hK ⊢
                clear hW
                go_simp
                refine (HVC.out W qs _ zs ((LS.of_own HOC.out Cpn.cells_length (by decide)).below hG) e1).mono ?_
                rintro e w' ⟨rfl, hb⟩
                exact hK.out _ _ hb (hG.trans (hb.mono hG.size)) rfl
              case s3 =>
                intro f W hG hW K hK
                try dsimp only at hG
                simp only [putF, Act.put, List.setIfInBounds_toArray, List.set_cons_zero, List.set_cons_succ, Nat.reduceAdd, Nat.zero_add] at hK ⊢
                have hrw := (hG.block _ (block_lt HBX6.out)).trans HBX6.out
                obtain ⟨f1, f2⟩ := row_loT 11 hrw rfl rfl
                clear hW
                go_simp
                refine hK.out _ _ (Below.refl _ _) hG ?_
                with_reducible rfl
              case s4 =>
                intro f W hG hW K hK
                try dsimp only at hG
                have e2 := hW 2 (by kernel_rfl)
                change f 2 = .int .i64 vv at e2
                have e3 := hW 3 (by kernel_rfl)
                change f 3 = .agg #[.int .u64 y, .string loc, .int .i64 day, .slice cq cs.length cc, .slice xq tk.length xz, .int .u64 0, .int .u64 y, .int .u64 z, .int .i64 0, .int .i64 1, .slice none 0 0] at e3
                simp only [putF, Act.put, List.setIfInBounds_toArray, List.set_cons_zero, List.set_cons_succ, Nat.reduceAdd, Nat.zero_add] at hK ⊢
                (try rw [e2])
                (try rw [e2] at hK)
                (try rw [e3])
                (try rw [e3] at hK)
                clear hW
                go_simp
                refine (HTC.out W ((LS.of_own HXO.out Txx.cells_length (by decide)).below hG)).mono ?_
                rintro e w' ⟨rfl, hb⟩
                exact hK.out _ _ hb (hG.trans (hb.mono hG.size)) rfl
              case s5 =>
                intro f W hG hW K hK
                try dsimp only at hG
                have e0 := hW 0 (by kernel_rfl)
                change f 0 = .agg #[.int .u64 y, .string loc, .int .i64 day, .slice cq cs.length cc, .slice xq tk.length xz, .int .u64 0, .int .u64 y, .int .u64 z, .int .i64 0, .int .i64 1, .slice none 0 0] at e0
                have e1 := hW 1 (by kernel_rfl)
                try dsimp only at e1
                have e2 := hW 2 (by kernel_rfl)
                change f 2 = .int .i64 vv at e2
                have e4 := hW 4 (by kernel_rfl)
                change f 4 = .int .i64 xx at e4
                simp only [putF, Act.put, List.setIfInBounds_toArray, List.set_cons_zero, List.set_cons_succ, Nat.reduceAdd, Nat.zero_add] at hK ⊢
                (try rw [e0])
                (try rw [e0] at hK)
                (try rw [e2])
                (try rw [e2] at hK)
                (try rw [e4])
                (try rw [e4] at hK)
                clear hW
                go_simp
                refine hK.out _ _ (Below.refl _ _) hG ?_
                first | exact trivial | with_reducible rfl | rfl
              case s6 =>
                intro f W hG hW K hK
                try dsimp only at hG
                have e0 := hW 0 (by kernel_rfl)
                change f 0 = .agg #[.int .u64 y, .string loc, .int .i64 day, .slice cq cs.length cc, .slice xq tk.length xz, .int .u64 0, .int .u64 y, .int .u64 z, .int .i64 0, .int .i64 1, .slice none 0 0] at e0
                have e1 := hW 1 (by kernel_rfl)
                try dsimp only at e1
                have e2 := hW 2 (by kernel_rfl)
                change f 2 = .int .i64 vv at e2
                have e3 := hW 3 (by kernel_rfl)
                change f 3 = .agg #[.int .u64 y, .string loc, .int .i64 day, .slice cq cs.length cc, .slice xq tk.length xz, .int .u64 0, .int .u64 y, .int .u64 z, .int .i64 0, .int .i64 1, .slice none 0 0] at e3
                have e4 := hW 4 (by kernel_rfl)
                change f 4 = .int .i64 xx at e4
                have e5 := hW 5 (by kernel_rfl)
                change f 5 = .int .i64 vv at e5
                simp only [putF, Act.put, List.setIfInBounds_toArray, List.set_cons_zero, List.set_cons_succ, Nat.reduceAdd, Nat.zero_add] at hK ⊢
                (try rw [e0])
                (try rw [e0] at hK)
                (try rw [e2])
                (try rw [e2] at hK)
                (try rw [e3])
                (try rw [e3] at hK)
                (try rw [e4])
                (try rw [e4] at hK)
                (try rw [e5])
                (try rw [e5] at hK)
                clear hW
                go_simp
                refine hK.out _ _ (Below.refl _ _) hG ?_
                first | exact trivial | with_reducible rfl | rfl
            case iD =>
              intro f W hG hR
              try dsimp only at hG
              have r0 := hR 0 (by decide)
              change f 0 = .agg #[.int .u64 y, .string loc, .int .i64 day, .slice cq cs.length cc, .slice xq tk.length xz, .int .u64 0, .int .u64 y, .int .u64 z, .int .i64 0, .int .i64 1, .slice none 0 0] at r0
              have r1 := hR 1 (by decide)
              try dsimp only at r1
              have r2 := hR 2 (by decide)
              change f 2 = .int .i64 vv at r2
              have r3 := hR 3 (by decide)
              change f 3 = .agg #[.int .u64 y, .string loc, .int .i64 day, .slice cq cs.length cc, .slice xq tk.length xz, .int .u64 0, .int .u64 y, .int .u64 z, .int .i64 0, .int .i64 1, .slice none 0 0] at r3
              have r4 := hR 4 (by decide)
              change f 4 = .int .i64 xx at r4
              have r5 := hR 5 (by decide)
              change f 5 = .int .i64 vv at r5
              have r6 := hR 6 (by decide)
              change f 6 = .int .i64 xx at r6
              clear hR
              simp only [putF, Act.put, List.setIfInBounds_toArray, List.set_cons_zero, List.set_cons_succ, Nat.reduceAdd, Nat.zero_add]
              (try rw [r0])
              (try rw [r2])
              (try rw [r3])
              (try rw [r4])
              (try rw [r5])
              (try rw [r6])
              clear r0 r1 r2 r3 r4 HVC HTC
              replace HBX6 := Lib.hid ((hG.block _ (block_lt HBX6.out)).trans HBX6.out)
              replace HOC := Lib.hid (recs_below HOC.out hG)
              replace HXO := Lib.hid (recs_below HXO.out hG)
              have HBF : Hid (Below wd.heap.size wd W) := Lib.hid (by rw [HGX.out]; exact HBD.out.trans (hG.mono (by have := HBD.out.size; have := HGX.out; omega)))
              replace HB := Lib.hid (HB.out.trans (HBF.out.mono HB.out.size))
              replace HO := Lib.hid (recs_below HO.out HBF.out)
              replace HTI := Lib.hid (fun x hx => (HTI.out x hx).below HBF.out)
              replace HPO := Lib.hid (recs_below HPO.out HBF.out)
              replace HOC := Lib.hid (own_monoT HOC.out (show w.heap.size ≤ gx + 1 by have := HGE.out; omega))
              replace HXO := Lib.hid (own_monoT HXO.out (show w.heap.size ≤ gx + 1 by have := HGE.out; omega))
              clear hG HBF HBD
              generalize W = w7 at *
              go_upto_region 20 with fail
              obtain ⟨f1, f2⟩ := row_loT 11 HBX6.out rfl rfl
              have HBN := Lib.hid ((Below.refl w7.heap.size w7).alloc (Nat.le_refl _) (.cells #[.int .u64 y, .string loc, .int .i64 day, .slice cq cs.length cc, .slice xq tk.length xz, .int .u64 0, .int .u64 y, .int .u64 z, .int .i64 0, .int .i64 1, .slice none 0 0] 45 (0, 0)))
              have HO1 := Lib.hid (recs_below HO.out HBN.out)
              obtain ⟨yr, hyr⟩ : ∃ yr : Tkr, yr = Tkr.mk ⟨y, loc, day, cs, tk, 0, y, z, 0, 1, []⟩ ⟨cq, cs.length, cc⟩ ⟨xq, tk.length, xz⟩ ⟨none, 0, 0⟩ := ⟨_, rfl⟩
              have HYC : Hid (yr.cells = [.int .u64 y, .string loc, .int .i64 day, .slice cq cs.length cc, .slice xq tk.length xz, .int .u64 0, .int .u64 y, .int .u64 z, .int .i64 0, .int .i64 1, .slice none 0 0]) := Lib.hid (by rw [hyr]; rfl)
              have HYT : Hid (yr.t = ⟨y, loc, day, cs, tk, 0, y, z, 0, 1, []⟩) := Lib.hid (by rw [hyr])
              have HTY : Hid (TR w.heap.size w7 yr) := Lib.hid (by rw [hyr]; exact ⟨HOC.out, HXO.out, ⟨rfl, rfl⟩, tkI_wf HYU.out HZU.out HDY.out hloc (fun c hc => (HVB.out c hc).2) HTX.out.2.1⟩)
              clear hyr
              have HL1 : Hid (LS Tkr.cells 11 (w7.alloc (.cells #[.int .u64 y, .string loc, .int .i64 day, .slice cq cs.length cc, .slice xq tk.length xz, .int .u64 0, .int .u64 y, .int .u64 z, .int .i64 0, .int .i64 1, .slice none 0 0] 45 (0, 0))) (.slice (some ⟨w7.heap.size, 0, none⟩) 1 1) [yr]) := Lib.hid (row_one (x := yr) (new_rowW _ _ _ rfl) (by rw [HYC.out]) Tkr.cells_length (by decide))
              have HB1 := Lib.hid (HB.out.trans (HBN.out.mono HB.out.size))
              go_upto_region 21 with (at_builtin; (refine wpList_append_recs elemTk rfl _ _ rfl w.heap.size _ k _ rfl HO1.out _ _ rfl HL1.out (by have := HK3.out; simp; omega) HB1.out.size ?_); intro v1 w9 hown1 hg1 hn1 hat1; (obtain ⟨q1, z1, hv1⟩ := rec_formT hown1); subst hv1; have HOW1 := Lib.hid hown1; have HGR := Lib.hid hg1; clear hown1 hg1 hn1 hat1)
              clear f1 f2
              have HB9 := Lib.hid (HB1.out.grown HGR.out HB1.out.size (fun b hb => (recs_base HO1.out hb).1))
              have HTI9 := Lib.hid (fun x hx => ((HTI.out x hx).below HBN.out).grown HO1.out HGR.out (by decide) (by decide))
              have HTY9 := Lib.hid ((HTY.out.below HBN.out).grown HO1.out HGR.out (by decide) (by decide))
              have HPO9 := Lib.hid (own_apartT (recs_below HPO.out HBN.out) HO1.out HGR.out (by decide))
              clear HB1 HO1 HL1 HBN HGR HTI HTY HPO HOC HXO HBX6 HB HO
              generalize w9 = wa at *
              obtain ⟨eb3, ef3, hp, hbl3, hr⟩ := (HL.out.below HB9.out).at HY.out
              injection hp with hp
              injection hp with hp2 hp3 _
              subst hp2 hp3
              have hc : wa.cell? ⟨eb, ef + k, none⟩ = some (.int .u64 y) := by have := hr 0 _ rfl; rwa [Nat.mul_one] at this
              clear hr
              have hvv1 := HVV.out.1; have hvv2 := HVV.out.2; have hxx1 := HTT.out.1; have hxx2 := HTT.out.2
              have HBN := Lib.hid ((Below.refl wa.heap.size wa).alloc (Nat.le_refl _) (.cells #[.int .i64 day, .int .u64 y, .int .i64 1, .int .i64 1, .int .i64 (vv + xx), .int .i64 (-vv), .int .i64 0, .int .i64 (-xx), .int .i64 0, .int .i64 0] 59 (0, 0)))
              have HP1 := Lib.hid (recs_below HPO9.out HBN.out)
              have HPE : Hid (Dk.poI day (Dk.tkI day loc fl ts z k y) = ⟨day, y, 1, 1, vv + xx, -vv, 0, -xx, 0, 0⟩) := Lib.hid (by rw [HTKI.out]; unfold Dk.poI; dsimp only; rw [HVE.out, HXE.out])
              have HL2 : Hid (LS Pst.cells 10 (wa.alloc (.cells #[.int .i64 day, .int .u64 y, .int .i64 1, .int .i64 1, .int .i64 (vv + xx), .int .i64 (-vv), .int .i64 0, .int .i64 (-xx), .int .i64 0, .int .i64 0] 59 (0, 0))) (.slice (some ⟨wa.heap.size, 0, none⟩) 1 1) [Dk.poI day (Dk.tkI day loc fl ts z k y)]) := Lib.hid (row_one (x := Dk.poI day (Dk.tkI day loc fl ts z k y)) (new_rowW _ _ _ rfl) (by rw [HPE.out]; rfl) (fun _ => rfl) (by decide))
              have HB1 := Lib.hid (HB9.out.trans (HBN.out.mono HB9.out.size))
              go_upto_region 9 with (at_builtin; (refine wpList_append_recs elemPd rfl _ _ rfl w.heap.size _ k _ rfl HP1.out _ _ rfl HL2.out (by have := HK3.out; simp; omega) HB1.out.size ?_); intro v1 w9 hown1 hg1 hn1 hat1; (obtain ⟨q2, z2, hv1⟩ := rec_formT hown1); subst hv1; have HPW1 := Lib.hid hown1; have HGR := Lib.hid hg1; clear hown1 hg1 hn1 hat1)
              have HBZ := Lib.hid (HB1.out.grown HGR.out HB1.out.size (fun b hb => (recs_base HP1.out hb).1))
              have HTIZ := Lib.hid (fun x hx => ((HTI9.out x hx).below HBN.out).grown HP1.out HGR.out (by decide) (by decide))
              have HTYZ := Lib.hid ((HTY9.out.below HBN.out).grown HP1.out HGR.out (by decide) (by decide))
              have HOZ := Lib.hid (own_apartT (recs_below HOW1.out HBN.out) HP1.out HGR.out (by decide))
              clear HB1 HP1 HL2 HBN HGR HTI9 HTY9 HPO9 HB9 HOW1 hc
              generalize w9 = wz at *
              have HT2 : Hid (Dk.tksI day loc fl ts z 0 (l.take (k + 1)) = Dk.tksI day loc fl ts z 0 (l.take k) ++ [Dk.tkI day loc fl ts z k y]) := Lib.hid (by rw [Tkt.take_snocT HY.out, Dk.tksI_snoc, List.length_take, Nat.zero_add, show min k l.length = k by have := HNL.out; omega])
              go_wp2_with fail
              go_roundw
              case rel =>
                refine ⟨k + 1, q1, q2, z1, z2, rs ++ [yr], by omega, rfl, rfl, by go_num, HOZ.out, ?_, ?_, ?_, HBZ.out⟩
                · rw [List.map_append, HRS.out, HT2.out, List.map_cons, List.map_nil, HYT.out, HTKI.out]
                · intro x hx; rcases List.mem_append.1 hx with hx | hx
                  · exact HTIZ.out x hx
                  · obtain rfl := List.mem_singleton.1 hx; exact HTYZ.out
                · rw [HT2.out, List.map_append]; exact HPW1.out
              case measure => simp [intOf]; omega
    · obtain rfl : k = n3 := by omega
      have HTK : Hid (l.take k = l) := Lib.hid (List.take_of_length_le (by have := HNL.out; omega))
      rw [HTK.out] at HRS HPO
      have HRL := Lib.hid (recs_cases HO.out Tkr.cells_length (by decide)).1
      go_wp2_with fail
      go_ret3
      refine ⟨HB.out, _, _, rs, rfl, by rw [HZ2.out]; exact HRS.out, ⟨by rw [← HRL.out]; exact HO.out, fun y hy => (HTI.out y hy).tn⟩, ?_⟩
      rw [HZ2.out, ← HNL.out]
      exact HPO.out

end Go.Proofs.Ytadabjkhiaidcaa
