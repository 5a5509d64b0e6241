/- Contract: desk.Issue, where a sale is made. -/
import Derived.Test.YtadabjkhiaidcaaDsl46
import Derived.Test.YtadabjkhiaidcaaDsl4
import Derived.Test.YtadabjkhiaidcaaDsl40
import Derived.OwnWalk
import Derived.StillTailTactics

set_option linter.unusedVariables false
set_option linter.unusedSimpArgs false
namespace Go.Proofs.Ytadabjkhiaidcaa
open Go.ChangeShapes Go.WideShapes Go.ChangeAt Go.RowKit Go.Deep

theorem Dk.errI_bits {day : Int} {loc : ByteArray} {fl : List Cpn} {ts : List Txx} {l : List Int} (h : Dk.errI day loc fl ts l = 0) : Dk.rowB fl 12 = true ∧ Dk.taxedB ts = true ∧ Num.loc loc.data.toList = true ∧ ((l.length : Int) = Dk.need fl.length) ∧ Dk.numsB l = true ∧ Tkt.dayB day = true ∧ Dk.goesB fl day = true := by
  unfold Dk.errI Dk.mayI at h
  split at h
  · rename_i h1
    split at h
    · rename_i h2
      simp only [Bool.and_eq_true, decide_eq_true_eq] at h1
      obtain ⟨⟨⟨⟨⟨a, b⟩, c⟩, d⟩, e⟩, f⟩ := h1
      exact ⟨a, b, c, d, e, f, h2⟩
    · cases h
  · cases h
theorem Dk.sold_wf {y : Cpn} (h : Dk.soldB y = true) : (Dk.soldC y).wf := by
  unfold Dk.soldB Tkt.dayB Tkt.someB at h
  simp only [Bool.and_eq_true, decide_eq_true_eq] at h
  unfold Dk.soldC Cpn.wf I64 U64
  dsimp only
  omega
theorem Dk.row_wf {l : List Cpn} {most : Int} (h : Dk.rowB l most = true) : ∀ y ∈ l.map Dk.soldC, y.wf := fun y hy => by
  obtain ⟨x, hx, rfl⟩ := List.mem_map.1 hy
  exact Dk.sold_wf (Dk.row_sold h x hx)
theorem Dk.tax_wf : ∀ (d : Int) (l : List Txx), 0 ≤ d → Dk.taxB d l = true → ∀ y ∈ l, y.wf
  | d, [], _, _ => by simp
  | d, x :: r, hd, h => by
    unfold Dk.taxB Tkt.someB at h
    simp only [Bool.and_eq_true, decide_eq_true_eq] at h
    intro y hy
    rcases List.mem_cons.1 hy with rfl | hy
    · unfold Txx.wf I64; omega
    · exact Dk.tax_wf _ r (by omega) h.2 y hy
theorem Dk.taxed_wf {l : List Txx} (h : Dk.taxedB l = true) : ∀ y ∈ l, y.wf := by
  unfold Dk.taxedB at h
  simp only [Bool.and_eq_true, decide_eq_true_eq] at h
  exact Dk.tax_wf 0 l (Int.le_refl _) h.1
theorem TI.only {base rb g : Nat} {W W' : World} {y : Tkr} {cs ds : Array Value} {fr : Nat × Nat} (h : TI base W rb y) (hw : Only g W W') (hg : W.heap[g]? = some (.cells cs 45 fr)) (hrb : W.heap[rb]? = some (.cells ds 37 (0, 0))) : TI base W' rb y :=
  ⟨h.c.keep hw.size fun b hb hl => hw.block b hl (by rw [h.cb b hb]; exact row_neT hrb hg (by decide)), h.cb, recs_only h.x (own_neT h.x hg (by decide)) hw, h.h, h.wf⟩
theorem tkI_wf {y z day : Int} {loc : ByteArray} {cs : List Cpn} {tk : List Txx} (hy : U64 y) (hz : U64 z) (hd : 0 ≤ day ∧ day ≤ 1000000) (hloc : loc.size ≤ maxLen) (hc : ∀ c ∈ cs, c.wf) (hx : ∀ c ∈ tk, c.wf) : (⟨y, loc, day, cs, tk, 0, y, z, 0, 1, []⟩ : Tk).wf :=
  ⟨hy, hloc, ⟨show -9223372036854775808 ≤ day by omega, show day ≤ 9223372036854775807 by omega⟩, hc, hx, ⟨show (0 : Int) ≤ 0 by decide, show (0 : Int) ≤ _ by decide⟩, hy, hz, ⟨show _ ≤ (0 : Int) by decide, show (0 : Int) ≤ _ by decide⟩, ⟨show _ ≤ (1 : Int) by decide, show (1 : Int) ≤ _ by decide⟩, by simp⟩
theorem ls_new {α : Type} {enc : α → List Value} {n : Nat} (hn : ∀ x, (enc x).length = n) (hp : 0 < n) (w : World) (e : TypeId) (l : List α) (hl : l.length ≤ maxLen) (cs : Array Value) (hc : cs = (encL enc l).toArray) : LS enc n (w.alloc (.cells cs e (0, 0))) (.slice (some ⟨w.heap.size, 0, none⟩) l.length l.length) l := by
  subst hc
  have h : RowL enc n (w.alloc (.cells (encL enc l).toArray e (0, 0))) w.heap.size l := RowL.of_block (new_rowW _ _ _ rfl) hn (by simp [encL_length hn]) (by rw [← encL_length hn]; simp)
  exact h.slice hn hp (Nat.le_refl _) hl
theorem elemPd : Elem Try.prog Pst.cells 10 80 28 59 := Elem.of Try.underlying28 (by kernel_rfl) (by decide) (by decide) (fun _ => rfl) (fun x v hv => by
  unfold Pst.cells at hv
  simp only [List.mem_cons, List.not_mem_nil, or_false] at hv
  rcases hv with rfl | rfl | rfl | rfl | rfl | rfl | rfl | rfl | rfl | rfl <;> rfl)
attribute [local go_sem ↓] Tk_execLoad Tk_execStore

attribute [local go_sem] Tk_load Tk_store loL_drew okL_drew there_sc World.there_drew

attribute [local irreducible] Dk.rowB Dk.taxedB Dk.numsB Dk.goesB Dk.tksI

set_option maxRecDepth 8000 in
set_option maxHeartbeats 2000000 in
theorem dissue_ok (day : Int) (loc : ByteArray) (fl : List Cpn) (ts : List Txx) (l : List Int) (p q r : Option Addr) (n cap n2 c2 n3 c3 : Nat) (w : World) (hloc : loc.size ≤ maxLen) (hf : LS Cpn.cells 6 w (.slice p n cap) fl) (hx : LS Txx.cells 2 w (.slice q n2 c2) ts) (hl : LS u64C 1 w (.slice r n3 c3) l) (hu : ∀ m ∈ l, U64 m) (hn : n ≤ 1000) (hE : Dk.errI day loc fl ts l = 0) : Calls Try.prog 7 #[.int .i64 day, .string loc, .slice p n cap, .slice q n2 c2, .slice r n3 c3] w fun e w' => Below w.heap.size w w' ∧ ∃ (v1 v2 : Value) (rs : List Tkr), e = .returned (.tuple #[v1, v2, .int .i64 0]) ∧ rs.map Tkr.t = Dk.tksI day loc fl ts (l.headD 0) 0 l ∧ TLn w.heap.size w' v1 rs ∧ w'.ownsRow w.heap.size 59 10 v2 l.length (encL Pst.cells ((Dk.tksI day loc fl ts (l.headD 0) 0 l).map (Dk.poI day))) := by
  have HBI := Lib.hid (Dk.errI_bits hE)
  have hBI := HBI.out
  obtain ⟨h1, h2, h3, h4, h5, h6, h7⟩ := hBI
  have HF := Lib.hid hf; have HX := Lib.hid hx; have HL := Lib.hid hl; have HUU := Lib.hid hu
  have HROW := Lib.hid (fun W hW => drow_any fl p n cap 12 W (hf.below hW) hn)
  have HTAX := Lib.hid (fun W hW => dtaxed_any ts q n2 c2 W (hx.below hW))
  have HLOC := Lib.hid (fun W => locator_any loc W hloc)
  have HNEED := Lib.hid (fun W => dneed_any (n : Int) W)
  have HNUM := Lib.hid (fun W hW => dnumbers_any l r n3 c3 W (hl.below hW) hu)
  have HWI := Lib.hid (fun W => dwithin_any day W)
  have HNF := Lib.hid hf.length.1; have HNL := Lib.hid hl.length.1; have HNX := Lib.hid hx.length.1
  have hl3 : n3 ≤ 9223372036854775807 := by have h1 := hl.length; unfold maxLen at h1; omega
  have HN1 := Lib.hid hn
  rw [h1] at HROW
  rw [h2] at HTAX
  rw [h3] at HLOC
  rw [h5] at HNUM
  rw [h6] at HWI
  rw [← HNL.out, ← HNF.out] at h4
  rw [← h4] at HNEED
  have hn4 : n3 = (n + 3) / 4 ∧ 1 ≤ n ∧ n ≤ 12 := by
    have hr := Dk.row_len h1
    rw [← HNF.out] at hr
    have hk : 1 ≤ n ∧ n ≤ 12 := by omega
    unfold Dk.need at h4
    refine ⟨?_, hk⟩
    rw [if_pos (by omega)] at h4
    omega
  have HN4 := Lib.hid hn4
  clear hn4
  have H1 := Lib.hid h1; have H7 := Lib.hid h7; have H2 := Lib.hid h2
  have HDY : Hid (0 ≤ day ∧ day ≤ 1000000) := Lib.hid (by unfold Tkt.dayB at h6; simpa using h6)
  clear hf hx hl hu h1 h2 h3 h4 h5 h6 h7 hE
  go_enter Try.func7, Try.ntmps7
  go_wp2_with fail
  refine (HROW.out _ (Below.refl _ _)).mono ?_
  rintro e w1 ⟨rv, rfl, hown, hb⟩
  have HB := Lib.hid hb
  replace hown := hown trivial
  rw [← HNF.out] at hown
  have HOW := Lib.hid hown
  clear hb hown
  obtain ⟨rb, cr, hrv⟩ := own_someT HOW.out (by have := HN4.out; omega)
  subst hrv
  have HGQ : Hid (∀ W, LS Cpn.cells 6 W (.slice (some ⟨rb, 0, none⟩) n cr) (fl.map Dk.soldC) → Calls Try.prog 26 #[.slice (some ⟨rb, 0, none⟩) n cr, .int .i64 day] W fun e w' => e = .returned (.bool true) ∧ Below W.heap.size W w') := Lib.hid (fun W h => by have := dgoes_any (fl.map Dk.soldC) (some ⟨rb, 0, none⟩) n cr day W h; rwa [Dk.goes_map, H7.out] at this)
  go_wp2_with (first | (go_at_call 26; refine (HGQ.out _ (LS.of_own HOW.out Cpn.cells_length (by decide))).mono ?_; rintro e wn ⟨rfl, hbn⟩; have HB := Lib.hid (HB.out.trans (hbn.mono HB.out.size)); have HOW := Lib.hid (recs_below HOW.out hbn); clear hbn) | (go_at_call 22; refine (HTAX.out _ HB.out).mono ?_; rintro e wn ⟨rfl, hbn⟩; have HB := Lib.hid (HB.out.trans (hbn.mono HB.out.size)); have HOW := Lib.hid (recs_below HOW.out hbn); clear hbn) | (go_at_call 23; refine (HLOC.out _).mono ?_; rintro e wn ⟨rfl, hbn⟩; have HB := Lib.hid (HB.out.trans (hbn.mono HB.out.size)); have HOW := Lib.hid (recs_below HOW.out hbn); clear hbn) | (go_at_call 24; refine (HNUM.out _ HB.out).mono ?_; rintro e wn ⟨rfl, hbn⟩; have HB := Lib.hid (HB.out.trans (hbn.mono HB.out.size)); have HOW := Lib.hid (recs_below HOW.out hbn); clear hbn) | (go_at_call 11; refine (HNEED.out _).mono ?_; rintro e wn ⟨rfl, rfl⟩) | (go_at_call 25; refine (HWI.out _).mono ?_; rintro e wn ⟨rfl, rfl⟩))
  clear HROW HTAX HLOC HNEED HNUM HWI HGQ
  obtain ⟨z, hz⟩ : ∃ z, l[0]? = some z := ⟨_, List.getElem?_eq_getElem (by have := HN4.out; have := HNL.out; omega)⟩
  have HZ2 : Hid (l.headD 0 = z) := Lib.hid (by cases l with | nil => cases hz | cons a r => exact Option.some.inj hz)
  have HZ := Lib.hid hz
  clear hz
  obtain ⟨rcs, hrc⟩ := own_rowT HOW.out
  have HRC := Lib.hid hrc
  have HRB := Lib.hid (recs_base HOW.out (b := rb) rfl).1
  have HL0 : Hid (LS Cpn.cells 6 wn (.slice (some ⟨rb, 0, none⟩) (n - 4 * 0) cr) ((fl.map Dk.soldC).drop (4 * 0))) := Lib.hid (by have := LS.of_own HOW.out Cpn.cells_length (by decide); simpa using this)
  clear hrc HOW
  generalize wn = w2 at *
  go_loopw [13, 15, 16, 66] (fun rv ov pv i wr => ∃ (k : Nat) (ro rc : Nat) (qo qp : Option Addr) (co cp : Nat) (rs : List Tkr), k ≤ n3 ∧ rv = .slice (some ⟨rb, ro, none⟩) (n - 4 * k) rc ∧ ov = .slice qo k co ∧ pv = .slice qp k cp ∧ i = .int .i64 k ∧ LS Cpn.cells 6 wr (.slice (some ⟨rb, ro, none⟩) (n - 4 * k) rc) ((fl.map Dk.soldC).drop (4 * k)) ∧ wr.ownsRow w.heap.size 45 11 (.slice qo k co) k (encL Tkr.cells rs) ∧ rs.map Tkr.t = Dk.tksI day loc fl ts z 0 (l.take k) ∧ (∀ y ∈ rs, TI w.heap.size wr rb y) ∧ wr.ownsRow w.heap.size 59 10 (.slice qp k cp) k (encL Pst.cells ((Dk.tksI day loc fl ts z 0 (l.take k)).map (Dk.poI day))) ∧ Below w.heap.size w wr ∧ wr.heap[rb]? = some (.cells rcs 37 (0, 0))) (fun _ _ _ i _ => n3 - (intOf i).toNat)
  case atStart => exact ⟨0, 0, cr, none, none, 0, 0, [], Nat.zero_le _, rfl, rfl, rfl, rfl, HL0.out, World.ownsRow_nil _ _ _ _, (by rw [List.take_zero]; unfold Dk.tksI; rfl), (by simp), (by rw [List.take_zero]; unfold Dk.tksI; exact World.ownsRow_nil _ _ _ _), HB.out, HRC.out⟩
  case round =>
    obtain ⟨k, ro, rc, qo, qp, co, cp, rs, hk, rfl, rfl, rfl, rfl, hls, ho, hrs, hti, hp, hb, hrow⟩ := hrel
    replace HB := Lib.hid hb
    have HLS := Lib.hid hls; have HO := Lib.hid ho; have HRS := Lib.hid hrs; have HTI := Lib.hid hti; have HPO := Lib.hid hp; have HRW := Lib.hid hrow
    clear hb hls ho hrs hti hp hrow HL0 HRC
    by_cases hlt : k < n3
    · obtain ⟨y, hy⟩ : ∃ y, l[k]? = some y := ⟨_, List.getElem?_eq_getElem (by have := HNL.out; omega)⟩
      have HY := Lib.hid hy
      have HYU := Lib.hid (HUU.out y (List.mem_of_getElem? hy))
      have HZU := Lib.hid (HUU.out z (List.mem_of_getElem? HZ.out))
      obtain ⟨eb, ef, hp, hbl, hr⟩ := (HL.out.below HB.out).at hy
      obtain ⟨eb2, ef2, hp2, -, hr2⟩ := (HL.out.below HB.out).at HZ.out
      subst hp
      injection hp2 with hp2
      injection hp2 with hp2 hp3 _
      subst hp2 hp3
      have hc : wr.cell? ⟨eb, ef + k, none⟩ = some (.int .u64 y) := by have := hr 0 _ rfl; rwa [Nat.mul_one] at this
      have hc0 : wr.cell? ⟨eb, ef, none⟩ = some (.int .u64 z) := by have := hr2 0 _ rfl; simpa using this
      clear hr hr2 hy
      obtain ⟨mm, hmm⟩ : ∃ mm, min (n - 4 * k) 4 = mm := ⟨_, rfl⟩
      have HMM : Hid (mm = min (n - 4 * k) 4) := Lib.hid hmm.symm
      have hlc := HLS.out.length
      have hmc : mm ≤ rc := by omega
      have hmn : mm ≤ n - 4 * k := by omega
      have hcut := fun W => run_cutC (some ⟨rb, ro, none⟩) (n - 4 * k) rc mm hmc W
      have htl := fun W => run_tailC rb ro (n - 4 * k) rc mm hmn hlc.2.1 W
      have hif : (if (4 : Int) < ((n - 4 * k : Nat) : Int) then (4 : Int) else ((n - 4 * k : Nat) : Int)) = (mm : Int) := by omega
      have hk4 : n - 4 * k - mm = n - 4 * (k + 1) := by omega
      clear hmm hlc
      generalize hnk : n - 4 * k = nk at *
      have HNK := Lib.hid hnk
      clear hnk
      go_upto_region 12 with fail
      have HLC := Lib.hid (LS.cutm HLS.out hmn)
      have HLT : Hid (LS Cpn.cells 6 wr (.slice (some ⟨rb, if rc = mm then ro else ro + mm * 6, none⟩) (nk - mm) (rc - mm)) ((fl.map Dk.soldC).drop (4 * (k + 1)))) := Lib.hid (by
        have h := LS.tailC HLS.out hmn
        rw [List.drop_drop] at h
        have hl1 := HLS.out.length.1
        rw [List.length_drop, List.length_map, ← HNF.out] at hl1
        by_cases h4 : 4 ≤ nk
        · rwa [show 4 * k + mm = 4 * (k + 1) by omega] at h
        · have e1 : (fl.map Dk.soldC).drop (4 * k + mm) = [] := List.drop_of_length_le (by rw [List.length_map, ← HNF.out]; omega)
          have e2 : (fl.map Dk.soldC).drop (4 * (k + 1)) = [] := List.drop_of_length_le (by rw [List.length_map, ← HNF.out]; omega)
          rw [e2]; rwa [e1] at h)
      have HCS : Hid (((fl.map Dk.soldC).drop (4 * k)).take mm = ((fl.map Dk.soldC).drop (4 * k)).take 4) := Lib.hid (by
        have hl1 := HLS.out.length.1
        by_cases h4 : 4 ≤ nk
        · rw [show mm = 4 by have := HMM.out; omega]
        · rw [List.take_of_length_le (by have := HMM.out; omega), List.take_of_length_le (by omega)])
      rw [HCS.out] at HLC
      have HVB : Hid (∀ c ∈ ((fl.map Dk.soldC).drop (4 * k)).take 4, (0 ≤ c.va ∧ c.va ≤ 1000000000000) ∧ c.wf) := Lib.hid (fun c hc => by have hm := List.mem_of_mem_drop (List.mem_of_mem_take hc); exact ⟨Dk.row_va H1.out c hm, Dk.row_wf H1.out c hm⟩)
      have HCL : Hid ((((fl.map Dk.soldC).drop (4 * k)).take 4).length ≤ 4) := Lib.hid (List.length_take_le _ _)
      clear HLS HCS
      generalize hcs : ((fl.map Dk.soldC).drop (4 * k)).take 4 = cs at *
      have HCS := Lib.hid hcs
      clear hcs
      generalize hrp : (if rc = mm then ro else ro + mm * 6) = ro2 at *
      clear hrp
      have hn0 : 0 < n3 := by omega
      refine wp_region_G (C := fun W => W.cell? ⟨eb, ef, none⟩ = some (.int .u64 z)) (s0 := 13) (by kernel_rfl) ?_
      have hHeld : wr.drew.cell? ⟨eb, ef, none⟩ = some (.int .u64 z) := hc0
      have hbn := (Below.refl wr.heap.size wr).drew
      have hbl : eb < wr.drew.heap.size := hbl
      replace HB := Lib.hid (HB.out.trans ((hbn).mono HB.out.size))
      replace HLC := Lib.hid (HLC.out.below hbn)
      replace HLT := Lib.hid (HLT.out.below hbn)
      replace HO := Lib.hid (recs_below HO.out hbn)
      replace HTI := Lib.hid (fun x hx => (HTI.out x hx).below hbn)
      replace HPO := Lib.hid (recs_below HPO.out hbn)
      replace HRW := Lib.hid (((hbn).block _ (block_lt HRW.out)).trans HRW.out)
      have HGE : Hid (w.heap.size ≤ wr.drew.heap.size) := Lib.hid HB.out.size
      clear hbn hc hc0
      generalize wr.drew = wd at *
      have HOL : Hid (∀ b, (Value.slice qo k co).ownBlock = some b → b < wd.heap.size) := Lib.hid (fun b hb => (recs_base HO.out (b := b) hb).2)
      have tc := there_newT (w := wd) (zs := [.int .u64 0, .string ⟨#[]⟩, .int .i64 0, .slice none 0 0, .slice none 0 0, .int .u64 0, .int .u64 0, .int .u64 0, .int .i64 0, .int .i64 0, .slice none 0 0]) (e := 45) (n := 11) rfl
      have c6n : ([.int .u64 y, .string loc, .int .i64 day, .slice (some ⟨rb, ro, none⟩) mm mm, .slice none 0 0, .int .u64 0, .int .u64 y, .int .u64 z, .int .i64 0, .int .i64 1, .slice none 0 0] : List Value).length = 11 := rfl
      have c6c : ([.int .u64 y, .string loc, .int .i64 day, .slice (some ⟨rb, ro, none⟩) mm mm, .slice none 0 0, .int .u64 0, .int .u64 y, .int .u64 z, .int .i64 0, .int .i64 1, .slice none 0 0] : List Value).all (·.oneCell') = true := rfl
      have HHB := Lib.hid (((Below.refl wd.heap.size wd).alloc (Nat.le_refl _) (.cells #[.int .u64 0, .string ⟨#[]⟩, .int .i64 0, .slice none 0 0, .slice none 0 0, .int .u64 0, .int .u64 0, .int .u64 0, .int .i64 0, .int .i64 0, .slice none 0 0] 45 (0, 0))).cell (p := ⟨eb, ef, none⟩) hbl)
      refine wpAnyG_takeU (i := 0) (oi := { dst := some 74, op := Op.move (Operand.tmp 18), type := 35, pos := "desk.go:140", after := #[], guard := none }) (v := ?_) rfl (by kernel_rfl) (by kernel_rfl) (by kernel_rfl) (by decide) (fun _ _ _ h => h) (Or.inl ⟨by rfl, ?_⟩) (.inl (by assumption)) ?_
      rotate_left
      · intro w hSw; go_simp; try with_reducible rfl
      try simp only [Act.put, List.setIfInBounds_toArray, List.set_cons_zero, List.set_cons_succ]
      refine wpAnyG_takeU (i := 1) (oi := { dst := some 75, op := Op.move (Operand.tmp 1), type := 9, pos := "desk.go:140", after := #[], guard := none }) (v := ?_) rfl (by kernel_rfl) (by kernel_rfl) (by kernel_rfl) (by decide) (fun _ _ _ h => h) (Or.inl ⟨by rfl, ?_⟩) (.inl (by assumption)) ?_
      rotate_left
      · intro w hSw; go_simp; try with_reducible rfl
      try simp only [Act.put, List.setIfInBounds_toArray, List.set_cons_zero, List.set_cons_succ]
      refine wpAnyG_takeU (i := 2) (oi := { dst := some 76, op := Op.move (Operand.tmp 0), type := 3, pos := "desk.go:140", after := #[], guard := none }) (v := ?_) rfl (by kernel_rfl) (by kernel_rfl) (by kernel_rfl) (by decide) (fun _ _ _ h => h) (Or.inl ⟨by rfl, ?_⟩) (.inl (by assumption)) ?_
      rotate_left
      · intro w hSw; go_simp; try with_reducible rfl
      try simp only [Act.put, List.setIfInBounds_toArray, List.set_cons_zero, List.set_cons_succ]
      refine wpAnyG_takeU (i := 3) (oi := { dst := some 77, op := Op.move (Operand.tmp 13), type := 22, pos := "desk.go:140", after := #[], guard := none }) (v := ?_) rfl (by kernel_rfl) (by kernel_rfl) (by kernel_rfl) (by decide) (fun _ _ _ h => h) (Or.inl ⟨by rfl, ?_⟩) (.inl (by assumption)) ?_
      rotate_left
      · intro w hSw; go_simp; try with_reducible rfl
      try simp only [Act.put, List.setIfInBounds_toArray, List.set_cons_zero, List.set_cons_succ]
      refine wpAnyG_takeU (i := 4) (oi := { dst := some 78, op := Op.move (Operand.tmp 19), type := 3, pos := "desk.go:140", after := #[], guard := none }) (v := ?_) rfl (by kernel_rfl) (by kernel_rfl) (by kernel_rfl) (by decide) (fun _ _ _ h => h) (Or.inl ⟨by rfl, ?_⟩) (.inl (by assumption)) ?_
      rotate_left
      · intro w hSw; go_simp; try with_reducible rfl
      try simp only [Act.put, List.setIfInBounds_toArray, List.set_cons_zero, List.set_cons_succ]
      refine wpAnyG_takeU (i := 5) (oi := { dst := some 79, op := Op.move (Operand.tmp 19), type := 3, pos := "desk.go:140", after := #[], guard := none }) (v := ?_) rfl (by kernel_rfl) (by kernel_rfl) (by kernel_rfl) (by decide) (fun _ _ _ h => h) (Or.inl ⟨by rfl, ?_⟩) (.inl (by assumption)) ?_
      rotate_left
      · intro w hSw; go_simp; try with_reducible rfl
      try simp only [Act.put, List.setIfInBounds_toArray, List.set_cons_zero, List.set_cons_succ]
      refine wpAnyG_takeU (i := 6) (oi := { dst := some 80, op := Op.slice 22 (Operand.tmp 77) none (some (Operand.tmp 78)) (some (Operand.tmp 79)), type := 22, pos := "desk.go:140", after := #[{ on := 3, ground := Ground.data }, { on := 4, ground := Ground.data }, { on := 5, ground := Ground.data }], guard := none }) (v := ?_) rfl (by kernel_rfl) (by kernel_rfl) (by kernel_rfl) (by decide) (fun _ _ _ h => h) (Or.inl ⟨by rfl, ?_⟩) (.inl (by assumption)) ?_
      rotate_left
      · intro w hSw; go_simp; try with_reducible rfl
      try simp only [Act.put, List.setIfInBounds_toArray, List.set_cons_zero, List.set_cons_succ]
      refine wpAnyG_takeU (i := 7) (oi := { dst := some 81, op := Op.move (Operand.tmp 18), type := 35, pos := "desk.go:140", after := #[], guard := none }) (v := ?_) rfl (by kernel_rfl) (by kernel_rfl) (by kernel_rfl) (by decide) (fun _ _ _ h => h) (Or.inl ⟨by rfl, ?_⟩) (.inl (by assumption)) ?_
      rotate_left
      · intro w hSw; go_simp; try with_reducible rfl
      try simp only [Act.put, List.setIfInBounds_toArray, List.set_cons_zero, List.set_cons_succ]
      refine wpAnyG_takeU (i := 8) (oi := { dst := some 82, op := Op.move (Operand.tmp 4), type := 24, pos := "desk.go:140", after := #[], guard := none }) (v := ?_) rfl (by kernel_rfl) (by kernel_rfl) (by kernel_rfl) (by decide) (fun _ _ _ h => h) (Or.inl ⟨by rfl, ?_⟩) (.inl (by assumption)) ?_
      rotate_left
      · intro w hSw; go_simp; try with_reducible rfl
      try simp only [Act.put, List.setIfInBounds_toArray, List.set_cons_zero, List.set_cons_succ]
      refine wpAnyG_takeU (i := 9) (oi := { dst := some 83, op := Op.indexAddr 24 (Operand.tmp 82) (Operand.const (Value.int IntKind.i64 0)), type := 0, pos := "desk.go:140", after := #[{ on := 8, ground := Ground.data }], guard := none }) (v := ?_) rfl (by kernel_rfl) (by kernel_rfl) (by kernel_rfl) (by decide) (fun _ _ _ h => h) (Or.inl ⟨by rfl, ?_⟩) (.inl (by assumption)) ?_
      rotate_left
      · intro w hSw; go_simp; try with_reducible rfl
      try simp only [Act.put, List.setIfInBounds_toArray, List.set_cons_zero, List.set_cons_succ]
      refine wpAnyG_takeM (i := 10) (oi := { dst := some 84, op := Op.load 35 (Operand.tmp 83), type := 35, pos := "desk.go:140", after := #[{ on := 9, ground := Ground.data }], guard := none }) (v := ?_) (ms := [11, 13]) rfl (by kernel_rfl) (by kernel_rfl) (by kernel_rfl) (by kernel_rfl) (by kernel_rfl) (fun _ _ _ h => h) (Or.inl ⟨by rfl, ?_⟩) (by assumption) ?_
      rotate_left
      · intro w hSw; (try dsimp only at hSw); go_simp; try with_reducible rfl
      try simp only [Act.put, List.setIfInBounds_toArray, List.set_cons_zero, List.set_cons_succ]
      refine wpAnyG_takeU (i := 11) (oi := { dst := some 85, op := Op.build 45 #[(0, Operand.tmp 74), (1, Operand.tmp 75), (2, Operand.tmp 76), (3, Operand.tmp 80), (6, Operand.tmp 81), (7, Operand.tmp 84), (9, Operand.const (Value.int IntKind.i64 1))], type := 45, pos := "desk.go:140", after := #[{ on := 0, ground := Ground.data }, { on := 1, ground := Ground.data }, { on := 2, ground := Ground.data }, { on := 6, ground := Ground.data }, { on := 7, ground := Ground.data }, { on := 10, ground := Ground.data }], guard := none }) (v := ?_) rfl (by kernel_rfl) (by kernel_rfl) (by kernel_rfl) (by decide) (fun _ _ _ h => h) (Or.inl ⟨by rfl, ?_⟩) (.inl (by assumption)) ?_
      rotate_left
      · intro w hSw; go_simp; try with_reducible rfl
      try simp only [Act.put, List.setIfInBounds_toArray, List.set_cons_zero, List.set_cons_succ]
      refine wpAnyG_one (i := 12) (o := { dst := some 20, op := Op.alloc 45, type := 0, pos := "desk.go:140", after := #[], guard := none }) (by kernel_rfl) rfl (fun K hK => ?_)
      go_simp
      refine hK.out _ _ (.inl (HHB.out.trans hHeld)) ?_
      clear hK K
      try simp only [Act.put, List.setIfInBounds_toArray, List.set_cons_zero, List.set_cons_succ]
      refine wpAnyG_one (i := 13) (o := { dst := none, op := Op.store 45 (Operand.tmp 20) (Operand.tmp 85), type := 0, pos := "desk.go:140", after := #[{ on := 12, ground := Ground.data }, { on := 11, ground := Ground.data }, { on := 0, ground := Ground.phase }, { on := 1, ground := Ground.phase }, { on := 2, ground := Ground.phase }, { on := 3, ground := Ground.phase }, { on := 4, ground := Ground.phase }, { on := 5, ground := Ground.phase }, { on := 6, ground := Ground.phase }, { on := 7, ground := Ground.phase }, { on := 8, ground := Ground.phase }, { on := 9, ground := Ground.phase }, { on := 10, ground := Ground.phase }, { on := 11, ground := Ground.phase }, { on := 12, ground := Ground.phase }], guard := none }) (by kernel_rfl) rfl (fun K hK => ?_)
      go_simp
      refine hK.out _ _ (.inr rfl) ?_
      clear hK K
      try simp only [Act.put, List.setIfInBounds_toArray, List.set_cons_zero, List.set_cons_succ]
      refine wpAnyG_done (by kernel_rfl) ?_ _
      clear hHeld HHB
      go_upto_region 13 with fail
      have HP := Lib.hid (putRec (W := wd) (e := 45) (zs := [.int .u64 0, .string ⟨#[]⟩, .int .i64 0, .slice none 0 0, .slice none 0 0, .int .u64 0, .int .u64 0, .int .u64 0, .int .i64 0, .int .i64 0, .slice none 0 0]) (cs := [.int .u64 y, .string loc, .int .i64 day, .slice (some ⟨rb, ro, none⟩) mm mm, .slice none 0 0, .int .u64 0, .int .u64 y, .int .u64 z, .int .i64 0, .int .i64 1, .slice none 0 0]) rfl)
      have HPB := Lib.hid HP.out.2
      replace HB := Lib.hid (HB.out.trans ((HPB.out).mono HB.out.size))
      replace HLC := Lib.hid (HLC.out.below HPB.out)
      replace HLT := Lib.hid (HLT.out.below HPB.out)
      replace HO := Lib.hid (recs_below HO.out HPB.out)
      replace HTI := Lib.hid (fun x hx => (HTI.out x hx).below HPB.out)
      replace HPO := Lib.hid (recs_below HPO.out HPB.out)
      replace HRW := Lib.hid (((HPB.out).block _ (block_lt HRW.out)).trans HRW.out)
      have HBX := Lib.hid HP.out.1
      have HB4S := Lib.hid HB.out.size
      clear HP HPB tc c6n c6c hcut
      generalize (wd.alloc (.cells #[.int .u64 0, .string ⟨#[]⟩, .int .i64 0, .slice none 0 0, .slice none 0 0, .int .u64 0, .int .u64 0, .int .u64 0, .int .i64 0, .int .i64 0, .slice none 0 0] 45 (0, 0))).setCells wd.heap.size 0 [.int .u64 y, .string loc, .int .i64 day, .slice (some ⟨rb, ro, none⟩) mm mm, .slice none 0 0, .int .u64 0, .int .u64 y, .int .u64 z, .int .i64 0, .int .i64 1, .slice none 0 0] = w4 at *
      generalize wd.heap.size = gx at *
      go_upto_region 14 with fail
      clear htl
      obtain ⟨b0, hb0⟩ : ∃ b, ((k : Int) == 0) = b := ⟨_, rfl⟩
      cases b0
      · obtain ⟨xq, xz, tk, hx1, hx2, hx3⟩ : ∃ (xq : Option Addr) (xz : Nat) (tk : List Txx), (Value.slice none 0 0 = .slice xq tk.length xz) ∧ w4.ownsRow w.heap.size 56 2 (.slice xq tk.length xz) tk.length (encL Txx.cells tk) ∧ (if k = 0 then ts else []) = tk := ⟨none, 0, [], rfl, World.ownsRow_nil _ _ _ _, by rw [if_neg (by simpa using hb0)]⟩
        have HBX6 : Hid (w4.heap[gx]? = some (.cells #[.int .u64 y, .string loc, .int .i64 day, .slice (some ⟨rb, ro, none⟩) mm mm, .slice xq tk.length xz, .int .u64 0, .int .u64 y, .int .u64 z, .int .i64 0, .int .i64 1, .slice none 0 0] 45 (0, 0))) := Lib.hid (by rw [← hx1]; exact HBX.out)
        have HXO := Lib.hid hx2; have HTK := Lib.hid hx3
        clear hx1 hx2 hx3 HBX
        go_upto_region 16 with fail
        generalize w4 = w6 at *
        have HTX : Hid ((∀ t ∈ tk, 0 ≤ t.am ∧ t.am ≤ 1000000000000) ∧ (∀ t ∈ tk, t.wf) ∧ tk.length ≤ 4) := Lib.hid (by
          have h1 := Dk.taxed_am H2.out
          have h2 := Dk.taxed_wf H2.out
          have h3 := HTK.out
          by_cases hk0 : k = 0
          · rw [if_pos hk0] at h3; rw [← h3]; exact ⟨h1.1, h2, h1.2⟩
          · rw [if_neg hk0] at h3; rw [← h3]; exact ⟨by simp, by simp, by simp⟩)
        have HVV : Hid (0 ≤ Dk.valN [1] cs ∧ Dk.valN [1] cs ≤ 4000000000000) := Lib.hid (by have h := Dk.valN_bound [1] cs (fun c hc => (HVB.out c hc).1); have := HCL.out; omega)
        have HTT : Hid (0 ≤ Tkt.taxI tk ∧ Tkt.taxI tk ≤ 4000000000000) := Lib.hid (by have h := Tkt.taxI_bound tk HTX.out.1; have := HTX.out.2.2; omega)
        have HTKI : Hid (Dk.tkI day loc fl ts z k y = ⟨y, loc, day, cs, tk, 0, y, z, 0, 1, []⟩) := Lib.hid (by unfold Dk.tkI; rw [HCS.out, HTK.out])
        have HVC := Lib.hid (fun W (po : Option Addr) (no co : Nat) hl ho => dvalues_any ⟨y, loc, day, cs, tk, 0, y, z, 0, 1, []⟩ ⟨some ⟨rb, ro, none⟩, mm, mm⟩ ⟨xq, tk.length, xz⟩ ⟨none, 0, 0⟩ [1] po no co W hl (fun c hc => (HVB.out c hc).1) (by have := HCL.out; show cs.length ≤ 1000; omega) ho)
        have HTC := Lib.hid (fun W hl => dtaxes_any ⟨y, loc, day, cs, tk, 0, y, z, 0, 1, []⟩ ⟨some ⟨rb, ro, none⟩, mm, mm⟩ ⟨xq, tk.length, xz⟩ ⟨none, 0, 0⟩ W hl HTX.out.1 (by have := HTX.out.2.2; show tk.length ≤ 1000; omega))
        obtain ⟨vv, hvv⟩ : ∃ v, Dk.valN [1] cs = v := ⟨_, rfl⟩
        obtain ⟨xx, hxx⟩ : ∃ v, Tkt.taxI tk = v := ⟨_, rfl⟩
        dsimp only at HVC HTC
        rw [hvv] at HVC HVV
        rw [hxx] at HTC HTT
        have HVE := Lib.hid hvv; have HXE := Lib.hid hxx
        clear hvv hxx
        refine wp_region_rel (T := fun A B => Below A.heap.size A B) (G := fun W => Below w6.heap.size w6 W) (R := fun k => match k with | 0 => fun v _ => v = .agg #[.int .u64 y, .string loc, .int .i64 day, .slice (some ⟨rb, ro, none⟩) mm mm, .slice xq tk.length xz, .int .u64 0, .int .u64 y, .int .u64 z, .int .i64 0, .int .i64 1, .slice none 0 0] | 1 => fun v W => LS stC 1 W v [1] | 2 => fun v _ => v = .int .i64 vv | 3 => fun v _ => v = .agg #[.int .u64 y, .string loc, .int .i64 day, .slice (some ⟨rb, ro, none⟩) mm mm, .slice xq tk.length xz, .int .u64 0, .int .u64 y, .int .u64 z, .int .i64 0, .int .i64 1, .slice none 0 0] | 4 => fun v _ => v = .int .i64 xx | 5 => fun v _ => v = .int .i64 vv | 6 => fun v _ => v = .int .i64 xx | _ => fun _ _ => True) (by kernel_rfl) (by kernel_rfl) (by kernel_rfl) ?iT ((Below.refl _ _).drew) ?iS ?iD
        case iT =>
          intro k v A B hT h
          match k, h with
          | 0, h => exact h
          | 1, h => exact h.below hT
          | 2, h => exact h
          | 3, h => exact h
          | 4, h => exact h
          | 5, h => exact h
          | 6, h => exact h
          | _ + 7, h => exact trivial
        case iS =>
          refine ⟨?s0, ?s1, ?s2, ?s3, ?s4, ?s5, ?s6, trivial⟩
          case s0 =>
            intro f W hG hW K hK
            try dsimp only at hG
            simp only [putF, Act.put, List.setIfInBounds_toArray, List.set_cons_zero, List.set_cons_succ, Nat.reduceAdd, Nat.zero_add] at hK ⊢
            have hrw := (hG.block _ (block_lt HBX6.out)).trans HBX6.out
            obtain ⟨f1, f2⟩ := row_loT 11 hrw rfl rfl
            clear hW
            go_simp
            refine hK.out _ _ (Below.refl _ _) hG ?_
            with_reducible rfl
          case s1 =>
            intro f W hG hW K hK
            try dsimp only at hG
            simp only [putF, Act.put, List.setIfInBounds_toArray, List.set_cons_zero, List.set_cons_succ, Nat.reduceAdd, Nat.zero_add] at hK ⊢
            clear hW
            go_simp
            refine hK.out _ _ ((Below.refl _ _).alloc (Nat.le_refl _) _) (hG.alloc hG.size _) ?_
            exact row_one (enc := stC) (x := (1 : Int)) (new_rowW _ _ _ rfl) rfl (fun _ => rfl) (by decide)
          case s2 =>
            intro f W hG hW K hK
            try dsimp only at hG
            have e0 := hW 0 (by kernel_rfl)
            change f 0 = .agg #[.int .u64 y, .string loc, .int .i64 day, .slice (some ⟨rb, ro, none⟩) mm mm, .slice xq tk.length xz, .int .u64 0, .int .u64 y, .int .u64 z, .int .i64 0, .int .i64 1, .slice none 0 0] at e0
            have e1 := hW 1 (by kernel_rfl)
            try dsimp only at e1
            simp only [putF, Act.put, List.setIfInBounds_toArray, List.set_cons_zero, List.set_cons_succ, Nat.reduceAdd, Nat.zero_add] at hK ⊢
            (try rw [e0])
            (try rw [e0] at hK)
            obtain ⟨qs, zs, hqs⟩ := e1.shape
            rw [hqs] at e1
            simp only [hqs] at hK ⊢
            clear hW
            go_simp
            refine (HVC.out W qs _ zs (HLC.out.below hG) e1).mono ?_
            rintro e w' ⟨rfl, hb⟩
            exact hK.out _ _ hb (hG.trans (hb.mono hG.size)) rfl
          case s3 =>
            intro f W hG hW K hK
            try dsimp only at hG
            simp only [putF, Act.put, List.setIfInBounds_toArray, List.set_cons_zero, List.set_cons_succ, Nat.reduceAdd, Nat.zero_add] at hK ⊢
            have hrw := (hG.block _ (block_lt HBX6.out)).trans HBX6.out
            obtain ⟨f1, f2⟩ := row_loT 11 hrw rfl rfl
            clear hW
            go_simp
            refine hK.out _ _ (Below.refl _ _) hG ?_
            with_reducible rfl
          case s4 =>
            intro f W hG hW K hK
            try dsimp only at hG
            have e2 := hW 2 (by kernel_rfl)
            change f 2 = .int .i64 vv at e2
            have e3 := hW 3 (by kernel_rfl)
            change f 3 = .agg #[.int .u64 y, .string loc, .int .i64 day, .slice (some ⟨rb, ro, none⟩) mm mm, .slice xq tk.length xz, .int .u64 0, .int .u64 y, .int .u64 z, .int .i64 0, .int .i64 1, .slice none 0 0] at e3
            simp only [putF, Act.put, List.setIfInBounds_toArray, List.set_cons_zero, List.set_cons_succ, Nat.reduceAdd, Nat.zero_add] at hK ⊢
            (try rw [e2])
            (try rw [e2] at hK)
            (try rw [e3])
            (try rw [e3] at hK)
            clear hW
            go_simp
            refine (HTC.out W ((LS.of_own HXO.out Txx.cells_length (by decide)).below hG)).mono ?_
            rintro e w' ⟨rfl, hb⟩
            exact hK.out _ _ hb (hG.trans (hb.mono hG.size)) rfl
          case s5 =>
            intro f W hG hW K hK
            try dsimp only at hG
            have e0 := hW 0 (by kernel_rfl)
            change f 0 = .agg #[.int .u64 y, .string loc, .int .i64 day, .slice (some ⟨rb, ro, none⟩) mm mm, .slice xq tk.length xz, .int .u64 0, .int .u64 y, .int .u64 z, .int .i64 0, .int .i64 1, .slice none 0 0] at e0
            have e1 := hW 1 (by kernel_rfl)
            try dsimp only at e1
            have e2 := hW 2 (by kernel_rfl)
            change f 2 = .int .i64 vv at e2
            have e4 := hW 4 (by kernel_rfl)
            change f 4 = .int .i64 xx at e4
            simp only [putF, Act.put, List.setIfInBounds_toArray, List.set_cons_zero, List.set_cons_succ, Nat.reduceAdd, Nat.zero_add] at hK ⊢
            (try rw [e0])
            (try rw [e0] at hK)
            (try rw [e2])
            (try rw [e2] at hK)
            (try rw [e4])
            (try rw [e4] at hK)
            clear hW
            go_simp
            refine hK.out _ _ (Below.refl _ _) hG ?_
            first | exact trivial | with_reducible rfl | rfl
          case s6 =>
            intro f W hG hW K hK
            try dsimp only at hG
            have e0 := hW 0 (by kernel_rfl)
            change f 0 = .agg #[.int .u64 y, .string loc, .int .i64 day, .slice (some ⟨rb, ro, none⟩) mm mm, .slice xq tk.length xz, .int .u64 0, .int .u64 y, .int .u64 z, .int .i64 0, .int .i64 1, .slice none 0 0] at e0
            have e1 := hW 1 (by kernel_rfl)
            try dsimp only at e1
            have e2 := hW 2 (by kernel_rfl)
            change f 2 = .int .i64 vv at e2
            have e3 := hW 3 (by kernel_rfl)
            change f 3 = .agg #[.int .u64 y, .string loc, .int .i64 day, .slice (some ⟨rb, ro, none⟩) mm mm, .slice xq tk.length xz, .int .u64 0, .int .u64 y, .int .u64 z, .int .i64 0, .int .i64 1, .slice none 0 0] at e3
            have e4 := hW 4 (by kernel_rfl)
            change f 4 = .int .i64 xx at e4
            have e5 := hW 5 (by kernel_rfl)
            change f 5 = .int .i64 vv at e5
            simp only [putF, Act.put, List.setIfInBounds_toArray, List.set_cons_zero, List.set_cons_succ, Nat.reduceAdd, Nat.zero_add] at hK ⊢
            (try rw [e0])
            (try rw [e0] at hK)
            (try rw [e2])
            (try rw [e2] at hK)
            (try rw [e3])
            (try rw [e3] at hK)
            (try rw [e4])
            (try rw [e4] at hK)
            (try rw [e5])
            (try rw [e5] at hK)
            clear hW
            go_simp
            refine hK.out _ _ (Below.refl _ _) hG ?_
            first | exact trivial | with_reducible rfl | rfl
        case iD =>
          intro f W hG hR
          try dsimp only at hG
          have r0 := hR 0 (by decide)
          change f 0 = .agg #[.int .u64 y, .string loc, .int .i64 day, .slice (some ⟨rb, ro, none⟩) mm mm, .slice xq tk.length xz, .int .u64 0, .int .u64 y, .int .u64 z, .int .i64 0, .int .i64 1, .slice none 0 0] at r0
          have r1 := hR 1 (by decide)
          try dsimp only at r1
          have r2 := hR 2 (by decide)
          change f 2 = .int .i64 vv at r2
          have r3 := hR 3 (by decide)
          change f 3 = .agg #[.int .u64 y, .string loc, .int .i64 day, .slice (some ⟨rb, ro, none⟩) mm mm, .slice xq tk.length xz, .int .u64 0, .int .u64 y, .int .u64 z, .int .i64 0, .int .i64 1, .slice none 0 0] at r3
          have r4 := hR 4 (by decide)
          change f 4 = .int .i64 xx at r4
          have r5 := hR 5 (by decide)
          change f 5 = .int .i64 vv at r5
          have r6 := hR 6 (by decide)
          change f 6 = .int .i64 xx at r6
          clear hR
          simp only [putF, Act.put, List.setIfInBounds_toArray, List.set_cons_zero, List.set_cons_succ, Nat.reduceAdd, Nat.zero_add]
          (try rw [r0])
          (try rw [r2])
          (try rw [r3])
          (try rw [r4])
          (try rw [r5])
          (try rw [r6])
          clear r0 r1 r2 r3 r4 HVC HTC
          replace HB := Lib.hid (HB.out.trans ((hG).mono HB.out.size))
          replace HLC := Lib.hid (HLC.out.below hG)
          replace HLT := Lib.hid (HLT.out.below hG)
          replace HO := Lib.hid (recs_below HO.out hG)
          replace HTI := Lib.hid (fun x hx => (HTI.out x hx).below hG)
          replace HPO := Lib.hid (recs_below HPO.out hG)
          replace HRW := Lib.hid (((hG).block _ (block_lt HRW.out)).trans HRW.out)
          replace HXO := Lib.hid (recs_below HXO.out hG)
          replace HBX6 := Lib.hid (((hG).block _ (block_lt HBX6.out)).trans HBX6.out)
          clear hG
          generalize W = w7 at *
          go_upto_region 17 with fail
          obtain ⟨f1, f2⟩ := row_loT 11 HBX6.out rfl rfl
          have HBN := Lib.hid ((Below.refl w7.heap.size w7).alloc (Nat.le_refl _) (.cells #[.int .u64 y, .string loc, .int .i64 day, .slice (some ⟨rb, ro, none⟩) mm mm, .slice xq tk.length xz, .int .u64 0, .int .u64 y, .int .u64 z, .int .i64 0, .int .i64 1, .slice none 0 0] 45 (0, 0)))
          have HO1 := Lib.hid (recs_below HO.out HBN.out)
          obtain ⟨yr, hyr⟩ : ∃ yr : Tkr, yr = Tkr.mk ⟨y, loc, day, cs, tk, 0, y, z, 0, 1, []⟩ ⟨some ⟨rb, ro, none⟩, mm, mm⟩ ⟨xq, tk.length, xz⟩ ⟨none, 0, 0⟩ := ⟨_, rfl⟩
          have HYC : Hid (yr.cells = [.int .u64 y, .string loc, .int .i64 day, .slice (some ⟨rb, ro, none⟩) mm mm, .slice xq tk.length xz, .int .u64 0, .int .u64 y, .int .u64 z, .int .i64 0, .int .i64 1, .slice none 0 0]) := Lib.hid (by rw [hyr]; rfl)
          have HYT : Hid (yr.t = ⟨y, loc, day, cs, tk, 0, y, z, 0, 1, []⟩) := Lib.hid (by rw [hyr])
          have HTY : Hid (TI w.heap.size w7 rb yr) := Lib.hid (by rw [hyr]; exact ⟨HLC.out, fun b hb => by injection hb with hb; exact hb.symm, HXO.out, ⟨rfl, rfl⟩, tkI_wf HYU.out HZU.out HDY.out hloc (fun c hc => (HVB.out c hc).2) HTX.out.2.1⟩)
          clear hyr
          have HL1 : Hid (LS Tkr.cells 11 (w7.alloc (.cells #[.int .u64 y, .string loc, .int .i64 day, .slice (some ⟨rb, ro, none⟩) mm mm, .slice xq tk.length xz, .int .u64 0, .int .u64 y, .int .u64 z, .int .i64 0, .int .i64 1, .slice none 0 0] 45 (0, 0))) (.slice (some ⟨w7.heap.size, 0, none⟩) 1 1) [yr]) := Lib.hid (row_one (x := yr) (new_rowW _ _ _ rfl) (by rw [HYC.out]) Tkr.cells_length (by decide))
          have HB1 := Lib.hid (HB.out.trans (HBN.out.mono HB.out.size))
          have HK3 : Hid (k ≤ 1000) := Lib.hid (by have := HN4.out; omega)
          go_upto_region 18 with (at_builtin; (refine wpList_append_recs elemTk rfl _ _ rfl w.heap.size _ k _ rfl HO1.out _ _ rfl HL1.out (by have := HK3.out; simp; omega) HB1.out.size ?_); intro v1 w9 hown1 hg1 hn1 hat1; (obtain ⟨q1, z1, hv1⟩ := rec_formT hown1); subst hv1; have HOW1 := Lib.hid hown1; have HGR := Lib.hid hg1; clear hown1 hg1 hn1 hat1)
          clear f1 f2
          have HRWA := Lib.hid ((HBN.out.block _ (block_lt HRW.out)).trans HRW.out)
          have HNO : Hid (∀ b, (Value.slice qo k co).ownBlock = some b → b ≠ rb) := Lib.hid (own_neT HO1.out HRWA.out (by decide))
          have HB9 := Lib.hid (HB1.out.grown HGR.out HB1.out.size (fun b hb => (recs_base HO1.out hb).1))
          have HTI9 := Lib.hid (fun x hx => ((HTI.out x hx).below HBN.out).grown HO1.out HGR.out HRWA.out (by decide) (by decide))
          have HTY9 := Lib.hid ((HTY.out.below HBN.out).grown HO1.out HGR.out HRWA.out (by decide) (by decide))
          have HPO9 := Lib.hid (own_apartT (recs_below HPO.out HBN.out) HO1.out HGR.out (by decide))
          have HLT9 := Lib.hid ((HLT.out.below HBN.out).keep HGR.out.size fun b hb hl => HGR.out.block b hl (fun e => HNO.out b e.symm (by injection hb with hb; exact hb.symm)))
          have HRW9 := Lib.hid ((HGR.out.block _ (block_lt HRWA.out) (fun e => HNO.out rb e.symm rfl)).trans HRWA.out)
          clear HB1 HO1 HL1 HBN HGR HTI HTY HPO HLT HRW HRWA HNO HLC HXO HBX6 HB HOL HO
          generalize w9 = w8 at *
          have hvv1 := HVV.out.1; have hvv2 := HVV.out.2; have hxx1 := HTT.out.1; have hxx2 := HTT.out.2
          have HBM := Lib.hid ((Below.refl w8.heap.size w8).alloc (Nat.le_refl _) (.cells #[.int .i64 vv, .int .i64 xx] 2 (0, 0)))
          have HLA : Hid (LS i64C 1 (w8.alloc (.cells #[.int .i64 vv, .int .i64 xx] 2 (0, 0))) (.slice (some ⟨w8.heap.size, 0, none⟩) 2 2) [vv, xx]) := Lib.hid (ls_new (enc := i64C) (fun _ => rfl) (by decide) w8 _ [vv, xx] (by simp [maxLen]) _ rfl)
          have HAL : Hid (Dk.allN [vv, xx] = vv + xx) := Lib.hid (by show vv + (xx + 0) = vv + xx; omega)
          go_wp2_with fail
          refine (dall_any [vv, xx] _ 2 2 _ HLA.out (by intro u hu; simp only [List.mem_cons, List.not_mem_nil, or_false] at hu; rcases hu with rfl | rfl <;> omega) (by decide)).mono ?_
          rintro e wq ⟨rfl, rfl⟩
          rw [HAL.out]
          replace HB9 := Lib.hid (HB9.out.trans (HBM.out.mono HB9.out.size))
          replace HOW1 := Lib.hid (recs_below HOW1.out HBM.out)
          replace HTI9 := Lib.hid (fun x hx => (HTI9.out x hx).below HBM.out)
          replace HTY9 := Lib.hid (HTY9.out.below HBM.out)
          replace HPO9 := Lib.hid (recs_below HPO9.out HBM.out)
          replace HLT9 := Lib.hid (HLT9.out.below HBM.out)
          replace HRW9 := Lib.hid ((HBM.out.block _ (block_lt HRW9.out)).trans HRW9.out)
          clear HBM HLA HAL
          generalize w8.alloc (.cells #[.int .i64 vv, .int .i64 xx] 2 (0, 0)) = wa at *
          have HBN := Lib.hid ((Below.refl wa.heap.size wa).alloc (Nat.le_refl _) (.cells #[.int .i64 day, .int .u64 y, .int .i64 1, .int .i64 1, .int .i64 (vv + xx), .int .i64 (-vv), .int .i64 0, .int .i64 (-xx), .int .i64 0, .int .i64 0] 59 (0, 0)))
          have HP1 := Lib.hid (recs_below HPO9.out HBN.out)
          have HPE : Hid (Dk.poI day (Dk.tkI day loc fl ts z k y) = ⟨day, y, 1, 1, vv + xx, -vv, 0, -xx, 0, 0⟩) := Lib.hid (by rw [HTKI.out]; unfold Dk.poI; dsimp only; rw [HVE.out, HXE.out])
          have HL2 : Hid (LS Pst.cells 10 (wa.alloc (.cells #[.int .i64 day, .int .u64 y, .int .i64 1, .int .i64 1, .int .i64 (vv + xx), .int .i64 (-vv), .int .i64 0, .int .i64 (-xx), .int .i64 0, .int .i64 0] 59 (0, 0))) (.slice (some ⟨wa.heap.size, 0, none⟩) 1 1) [Dk.poI day (Dk.tkI day loc fl ts z k y)]) := Lib.hid (row_one (x := Dk.poI day (Dk.tkI day loc fl ts z k y)) (new_rowW _ _ _ rfl) (by rw [HPE.out]; rfl) (fun _ => rfl) (by decide))
          have HB1 := Lib.hid (HB9.out.trans (HBN.out.mono HB9.out.size))
          go_upto_region 19 with (at_builtin; (refine wpList_append_recs elemPd rfl _ _ rfl w.heap.size _ k _ rfl HP1.out _ _ rfl HL2.out (by have := HK3.out; simp; omega) HB1.out.size ?_); intro v1 w9 hown1 hg1 hn1 hat1; (obtain ⟨q2, z2, hv1⟩ := rec_formT hown1); subst hv1; have HPW1 := Lib.hid hown1; have HGR := Lib.hid hg1; clear hown1 hg1 hn1 hat1)
          have HRWA := Lib.hid ((HBN.out.block _ (block_lt HRW9.out)).trans HRW9.out)
          have HNO : Hid (∀ b, (Value.slice qp k cp).ownBlock = some b → b ≠ rb) := Lib.hid (own_neT HP1.out HRWA.out (by decide))
          have HBZ := Lib.hid (HB1.out.grown HGR.out HB1.out.size (fun b hb => (recs_base HP1.out hb).1))
          have HTIZ := Lib.hid (fun x hx => ((HTI9.out x hx).below HBN.out).grown HP1.out HGR.out HRWA.out (by decide) (by decide))
          have HTYZ := Lib.hid ((HTY9.out.below HBN.out).grown HP1.out HGR.out HRWA.out (by decide) (by decide))
          have HOZ := Lib.hid (own_apartT (recs_below HOW1.out HBN.out) HP1.out HGR.out (by decide))
          have HLTZ := Lib.hid ((HLT9.out.below HBN.out).keep HGR.out.size fun b hb hl => HGR.out.block b hl (fun e => HNO.out b e.symm (by injection hb with hb; exact hb.symm)))
          have HRWZ := Lib.hid ((HGR.out.block _ (block_lt HRWA.out) (fun e => HNO.out rb e.symm rfl)).trans HRWA.out)
          clear HB1 HP1 HL2 HBN HGR HTI9 HTY9 HPO9 HLT9 HRW9 HRWA HNO HB9 HOW1
          generalize w9 = wz at *
          have HT2 : Hid (Dk.tksI day loc fl ts z 0 (l.take (k + 1)) = Dk.tksI day loc fl ts z 0 (l.take k) ++ [Dk.tkI day loc fl ts z k y]) := Lib.hid (by rw [Tkt.take_snocT HY.out, Dk.tksI_snoc, List.length_take, Nat.zero_add, show min k l.length = k by have := HNL.out; omega])
          go_wp2_with fail
          go_roundw
          case rel =>
            (first | skip | (iterate 24 apply Exists.intro))
            rw [hk4] at HLTZ
            refine ⟨k + 1, ro2, rc - mm, q1, q2, z1, z2, rs ++ [yr], by omega, rfl, rfl, rfl, by go_num, HLTZ.out, HOZ.out, ?_, ?_, ?_, HBZ.out, HRWZ.out⟩
            · rw [List.map_append, HRS.out, HT2.out, List.map_cons, List.map_nil, HYT.out, HTKI.out]
            · intro x hx; rcases List.mem_append.1 hx with hx | hx
              · exact HTIZ.out x hx
              · obtain rfl := List.mem_singleton.1 hx; exact HTYZ.out
            · rw [HT2.out, List.map_append]; exact HPW1.out
          case measure => simp [intOf]; omega
      · go_wp2_with fail
        refine (cloneTx_any (.slice q n2 c2) ts (by have := HNX.out; have := (Dk.taxed_am H2.out).2; omega) w4 (HX.out.below HB.out)).mono ?_
        rintro e w5 ⟨v5, rfl, hown, hb5⟩
        replace HB := Lib.hid (HB.out.trans ((hb5).mono HB.out.size))
        replace HLC := Lib.hid (HLC.out.below hb5)
        replace HLT := Lib.hid (HLT.out.below hb5)
        replace HO := Lib.hid (recs_below HO.out hb5)
        replace HTI := Lib.hid (fun x hx => (HTI.out x hx).below hb5)
        replace HPO := Lib.hid (recs_below HPO.out hb5)
        replace HRW := Lib.hid (((hb5).block _ (block_lt HRW.out)).trans HRW.out)
        replace HBX := Lib.hid ((hb5.block _ (block_lt HBX.out)).trans HBX.out)
        replace hown := own_monoT hown HB4S.out
        obtain ⟨xq, xz, rfl⟩ := rec_formT hown
        have HXO := Lib.hid hown
        clear hown hb5
        have kf := fun j => frozen_of_row w5 gx j _ _ HBX.out
        have kc := fun j => cell_of_row w5 gx j _ _ _ HBX.out
        go_upto_region 16 with fail
        clear kf kc
        have HON := Lib.hid ((Only.refl gx w5).setCell 4 (.slice xq ts.length xz))
        have HBX6 : Hid ((w5.setCell ⟨gx, 4, none⟩ (.slice xq ts.length xz)).heap[gx]? = some (.cells #[.int .u64 y, .string loc, .int .i64 day, .slice (some ⟨rb, ro, none⟩) mm mm, .slice xq ts.length xz, .int .u64 0, .int .u64 y, .int .u64 z, .int .i64 0, .int .i64 1, .slice none 0 0] 45 (0, 0))) := Lib.hid (heap_setCell_same _ _ 4 _ _ _ HBX.out)
        have HNEB : Hid (rb ≠ gx) := Lib.hid (row_neT HRW.out HBX.out (by decide))
        replace HB := Lib.hid (Only.below HB.out HGE.out HB.out.size HON.out)
        replace HLC := Lib.hid (HLC.out.keep HON.out.size (fun b hb hl => HON.out.block b hl (by injection hb with hb; subst hb; exact HNEB.out)))
        replace HLT := Lib.hid (HLT.out.keep HON.out.size (fun b hb hl => HON.out.block b hl (by injection hb with hb; subst hb; exact HNEB.out)))
        replace HO := Lib.hid (recs_only HO.out (fun b hb => Nat.ne_of_lt (HOL.out b hb)) HON.out)
        replace HTI := Lib.hid (fun x hx => (HTI.out x hx).only HON.out HBX.out HRW.out)
        replace HPO := Lib.hid (recs_only HPO.out (own_neT HPO.out HBX.out (by decide)) HON.out)
        replace HXO := Lib.hid (recs_only HXO.out (own_neT HXO.out HBX.out (by decide)) HON.out)
        replace HRW := Lib.hid ((HON.out.block _ (block_lt HRW.out) HNEB.out).trans HRW.out)
        clear HON HNEB HBX
        generalize w5.setCell ⟨gx, 4, none⟩ (.slice xq ts.length xz) = w6 at *
        have HTK : Hid ((if k = 0 then ts else []) = ts) := Lib.hid (by rw [if_pos (by simpa using hb0)])
        obtain ⟨tk, htk⟩ : ∃ tk, ts = tk := ⟨_, rfl⟩
        have HTK : Hid ((if k = 0 then ts else []) = tk) := Lib.hid (by rw [HTK.out, htk])
        rw [htk] at HXO HBX6
        have HTE := Lib.hid htk
        clear htk
        have HTX : Hid ((∀ t ∈ tk, 0 ≤ t.am ∧ t.am ≤ 1000000000000) ∧ (∀ t ∈ tk, t.wf) ∧ tk.length ≤ 4) := Lib.hid (by
          have h1 := Dk.taxed_am H2.out
          have h2 := Dk.taxed_wf H2.out
          have h3 := HTK.out
          by_cases hk0 : k = 0
          · rw [if_pos hk0] at h3; rw [← h3]; exact ⟨h1.1, h2, h1.2⟩
          · rw [if_neg hk0] at h3; rw [← h3]; exact ⟨by simp, by simp, by simp⟩)
        have HVV : Hid (0 ≤ Dk.valN [1] cs ∧ Dk.valN [1] cs ≤ 4000000000000) := Lib.hid (by have h := Dk.valN_bound [1] cs (fun c hc => (HVB.out c hc).1); have := HCL.out; omega)
        have HTT : Hid (0 ≤ Tkt.taxI tk ∧ Tkt.taxI tk ≤ 4000000000000) := Lib.hid (by have h := Tkt.taxI_bound tk HTX.out.1; have := HTX.out.2.2; omega)
        have HTKI : Hid (Dk.tkI day loc fl ts z k y = ⟨y, loc, day, cs, tk, 0, y, z, 0, 1, []⟩) := Lib.hid (by unfold Dk.tkI; rw [HCS.out, HTK.out])
        have HVC := Lib.hid (fun W (po : Option Addr) (no co : Nat) hl ho => dvalues_any ⟨y, loc, day, cs, tk, 0, y, z, 0, 1, []⟩ ⟨some ⟨rb, ro, none⟩, mm, mm⟩ ⟨xq, tk.length, xz⟩ ⟨none, 0, 0⟩ [1] po no co W hl (fun c hc => (HVB.out c hc).1) (by have := HCL.out; show cs.length ≤ 1000; omega) ho)
        have HTC := Lib.hid (fun W hl => dtaxes_any ⟨y, loc, day, cs, tk, 0, y, z, 0, 1, []⟩ ⟨some ⟨rb, ro, none⟩, mm, mm⟩ ⟨xq, tk.length, xz⟩ ⟨none, 0, 0⟩ W hl HTX.out.1 (by have := HTX.out.2.2; show tk.length ≤ 1000; omega))
        obtain ⟨vv, hvv⟩ : ∃ v, Dk.valN [1] cs = v := ⟨_, rfl⟩
        obtain ⟨xx, hxx⟩ : ∃ v, Tkt.taxI tk = v := ⟨_, rfl⟩
        dsimp only at HVC HTC
        rw [hvv] at HVC HVV
        rw [hxx] at HTC HTT
        have HVE := Lib.hid hvv; have HXE := Lib.hid hxx
        clear hvv hxx
        refine wp_region_rel (T := fun A B => Below A.heap.size A B) (G := fun W => Below w6.heap.size w6 W) (R := fun k => match k with | 0 => fun v _ => v = .agg #[.int .u64 y, .string loc, .int .i64 day, .slice (some ⟨rb, ro, none⟩) mm mm, .slice xq tk.length xz, .int .u64 0, .int .u64 y, .int .u64 z, .int .i64 0, .int .i64 1, .slice none 0 0] | 1 => fun v W => LS stC 1 W v [1] | 2 => fun v _ => v = .int .i64 vv | 3 => fun v _ => v = .agg #[.int .u64 y, .string loc, .int .i64 day, .slice (some ⟨rb, ro, none⟩) mm mm, .slice xq tk.length xz, .int .u64 0, .int .u64 y, .int .u64 z, .int .i64 0, .int .i64 1, .slice none 0 0] | 4 => fun v _ => v = .int .i64 xx | 5 => fun v _ => v = .int .i64 vv | 6 => fun v _ => v = .int .i64 xx | _ => fun _ _ => True) (by kernel_rfl) (by kernel_rfl) (by kernel_rfl) ?iT ((Below.refl _ _).drew) ?iS ?iD
        case iT =>
          intro k v A B hT h
          match k, h with
          | 0, h => exact h
          | 1, h => exact h.below hT
          | 2, h => exact h
          | 3, h => exact h
          | 4, h => exact h
          | 5, h => exact h
          | 6, h => exact h
          | _ + 7, h => exact trivial
        case iS =>
          refine ⟨?s0, ?s1, ?s2, ?s3, ?s4, ?s5, ?s6, trivial⟩
          case s0 =>
            intro f W hG hW K hK
            try dsimp only at hG
            simp only [putF, Act.put, List.setIfInBounds_toArray, List.set_cons_zero, List.set_cons_succ, Nat.reduceAdd, Nat.zero_add] at hK ⊢
            have hrw := (hG.block _ (block_lt HBX6.out)).trans HBX6.out
            obtain ⟨f1, f2⟩ := row_loT 11 hrw rfl rfl
            clear hW
            go_simp
            refine hK.out _ _ (Below.refl _ _) hG ?_
            with_reducible rfl
          case s1 =>
            intro f W hG hW K hK
            try dsimp only at hG
            simp only [putF, Act.put, List.setIfInBounds_toArray, List.set_cons_zero, List.set_cons_succ, Nat.reduceAdd, Nat.zero_add] at hK ⊢
            clear hW
            go_simp
            refine hK.out _ _ ((Below.refl _ _).alloc (Nat.le_refl _) _) (hG.alloc hG.size _) ?_
            exact row_one (enc := stC) (x := (1 : Int)) (new_rowW _ _ _ rfl) rfl (fun _ => rfl) (by decide)
          case s2 =>
            intro f W hG hW K hK
            try dsimp only at hG
            have e0 := hW 0 (by kernel_rfl)
            change f 0 = .agg #[.int .u64 y, .string loc, .int .i64 day, .slice (some ⟨rb, ro, none⟩) mm mm, .slice xq tk.length xz, .int .u64 0, .int .u64 y, .int .u64 z, .int .i64 0, .int .i64 1, .slice none 0 0] at e0
            have e1 := hW 1 (by kernel_rfl)
            try dsimp only at e1
            simp only [putF, Act.put, List.setIfInBounds_toArray, List.set_cons_zero, List.set_cons_succ, Nat.reduceAdd, Nat.zero_add] at hK ⊢
            (try rw [e0])
            (try rw [e0] at hK)
            obtain ⟨qs, zs, hqs⟩ := e1.shape
            rw [hqs] at e1
            simp only [hqs] at hK ⊢
            clear hW
            go_simp
            refine (HVC.out W qs _ zs (HLC.out.below hG) e1).mono ?_
            rintro e w' ⟨rfl, hb⟩
            exact hK.out _ _ hb (hG.trans (hb.mono hG.size)) rfl
          case s3 =>
            intro f W hG hW K hK
            try dsimp only at hG
            simp only [putF, Act.put, List.setIfInBounds_toArray, List.set_cons_zero, List.set_cons_succ, Nat.reduceAdd, Nat.zero_add] at hK ⊢
            have hrw := (hG.block _ (block_lt HBX6.out)).trans HBX6.out
            obtain ⟨f1, f2⟩ := row_loT 11 hrw rfl rfl
            clear hW
            go_simp
            refine hK.out _ _ (Below.refl _ _) hG ?_
            with_reducible rfl
          case s4 =>
            intro f W hG hW K hK
            try dsimp only at hG
            have e2 := hW 2 (by kernel_rfl)
            change f 2 = .int .i64 vv at e2
            have e3 := hW 3 (by kernel_rfl)
            change f 3 = .agg #[.int .u64 y, .string loc, .int .i64 day, .slice (some ⟨rb, ro, none⟩) mm mm, .slice xq tk.length xz, .int .u64 0, .int .u64 y, .int .u64 z, .int .i64 0, .int .i64 1, .slice none 0 0] at e3
            simp only [putF, Act.put, List.setIfInBounds_toArray, List.set_cons_zero, List.set_cons_succ, Nat.reduceAdd, Nat.zero_add] at hK ⊢
            (try rw [e2])
            (try rw [e2] at hK)
            (try rw [e3])
            (try rw [e3] at hK)
            clear hW
            go_simp
            refine (HTC.out W ((LS.of_own HXO.out Txx.cells_length (by decide)).below hG)).mono ?_
            rintro e w' ⟨rfl, hb⟩
            exact hK.out _ _ hb (hG.trans (hb.mono hG.size)) rfl
          case s5 =>
            intro f W hG hW K hK
            try dsimp only at hG
            have e0 := hW 0 (by kernel_rfl)
            change f 0 = .agg #[.int .u64 y, .string loc, .int .i64 day, .slice (some ⟨rb, ro, none⟩) mm mm, .slice xq tk.length xz, .int .u64 0, .int .u64 y, .int .u64 z, .int .i64 0, .int .i64 1, .slice none 0 0] at e0
            have e1 := hW 1 (by kernel_rfl)
            try dsimp only at e1
            have e2 := hW 2 (by kernel_rfl)
            change f 2 = .int .i64 vv at e2
            have e4 := hW 4 (by kernel_rfl)
            change f 4 = .int .i64 xx at e4
            simp only [putF, Act.put, List.setIfInBounds_toArray, List.set_cons_zero, List.set_cons_succ, Nat.reduceAdd, Nat.zero_add] at hK ⊢
            (try rw [e0])
            (try rw [e0] at hK)
            (try rw [e2])
            (try rw [e2] at hK)
            (try rw [e4])
            (try rw [e4] at hK)
            clear hW
            go_simp
            refine hK.out _ _ (Below.refl _ _) hG ?_
            first | exact trivial | with_reducible rfl | rfl
          case s6 =>
            intro f W hG hW K hK
            try dsimp only at hG
            have e0 := hW 0 (by kernel_rfl)
            change f 0 = .agg #[.int .u64 y, .string loc, .int .i64 day, .slice (some ⟨rb, ro, none⟩) mm mm, .slice xq tk.length xz, .int .u64 0, .int .u64 y, .int .u64 z, .int .i64 0, .int .i64 1, .slice none 0 0] at e0
            have e1 := hW 1 (by kernel_rfl)
            try dsimp only at e1
            have e2 := hW 2 (by kernel_rfl)
            change f 2 = .int .i64 vv at e2
            have e3 := hW 3 (by kernel_rfl)
            change f 3 = .agg #[.int .u64 y, .string loc, .int .i64 day, .slice (some ⟨rb, ro, none⟩) mm mm, .slice xq tk.length xz, .int .u64 0, .int .u64 y, .int .u64 z, .int .i64 0, .int .i64 1, .slice none 0 0] at e3
            have e4 := hW 4 (by kernel_rfl)
            change f 4 = .int .i64 xx at e4
            have e5 := hW 5 (by kernel_rfl)
            change f 5 = .int .i64 vv at e5
            simp only [putF, Act.put, List.setIfInBounds_toArray, List.set_cons_zero, List.set_cons_succ, Nat.reduceAdd, Nat.zero_add] at hK ⊢
            (try rw [e0])
            (try rw [e0] at hK)
            (try rw [e2])
            (try rw [e2] at hK)
            (try rw [e3])
            (try rw [e3] at hK)
            (try rw [e4])
            (try rw [e4] at hK)
            (try rw [e5])
            (try rw [e5] at hK)
            clear hW
            go_simp
            refine hK.out _ _ (Below.refl _ _) hG ?_
            first | exact trivial | with_reducible rfl | rfl
        case iD =>
          intro f W hG hR
          try dsimp only at hG
          have r0 := hR 0 (by decide)
          change f 0 = .agg #[.int .u64 y, .string loc, .int .i64 day, .slice (some ⟨rb, ro, none⟩) mm mm, .slice xq tk.length xz, .int .u64 0, .int .u64 y, .int .u64 z, .int .i64 0, .int .i64 1, .slice none 0 0] at r0
          have r1 := hR 1 (by decide)
          try dsimp only at r1
          have r2 := hR 2 (by decide)
          change f 2 = .int .i64 vv at r2
          have r3 := hR 3 (by decide)
          change f 3 = .agg #[.int .u64 y, .string loc, .int .i64 day, .slice (some ⟨rb, ro, none⟩) mm mm, .slice xq tk.length xz, .int .u64 0, .int .u64 y, .int .u64 z, .int .i64 0, .int .i64 1, .slice none 0 0] at r3
          have r4 := hR 4 (by decide)
          change f 4 = .int .i64 xx at r4
          have r5 := hR 5 (by decide)
          change f 5 = .int .i64 vv at r5
          have r6 := hR 6 (by decide)
          change f 6 = .int .i64 xx at r6
          clear hR
          simp only [putF, Act.put, List.setIfInBounds_toArray, List.set_cons_zero, List.set_cons_succ, Nat.reduceAdd, Nat.zero_add]
          (try rw [r0])
          (try rw [r2])
          (try rw [r3])
          (try rw [r4])
          (try rw [r5])
          (try rw [r6])
          clear r0 r1 r2 r3 r4 HVC HTC
          replace HB := Lib.hid (HB.out.trans ((hG).mono HB.out.size))
          replace HLC := Lib.hid (HLC.out.below hG)
          replace HLT := Lib.hid (HLT.out.below hG)
          replace HO := Lib.hid (recs_below HO.out hG)
          replace HTI := Lib.hid (fun x hx => (HTI.out x hx).below hG)
          replace HPO := Lib.hid (recs_below HPO.out hG)
          replace HRW := Lib.hid (((hG).block _ (block_lt HRW.out)).trans HRW.out)
          replace HXO := Lib.hid (recs_below HXO.out hG)
          replace HBX6 := Lib.hid (((hG).block _ (block_lt HBX6.out)).trans HBX6.out)
          clear hG
          generalize W = w7 at *
          go_upto_region 17 with fail
          obtain ⟨f1, f2⟩ := row_loT 11 HBX6.out rfl rfl
          have HBN := Lib.hid ((Below.refl w7.heap.size w7).alloc (Nat.le_refl _) (.cells #[.int .u64 y, .string loc, .int .i64 day, .slice (some ⟨rb, ro, none⟩) mm mm, .slice xq tk.length xz, .int .u64 0, .int .u64 y, .int .u64 z, .int .i64 0, .int .i64 1, .slice none 0 0] 45 (0, 0)))
          have HO1 := Lib.hid (recs_below HO.out HBN.out)
          obtain ⟨yr, hyr⟩ : ∃ yr : Tkr, yr = Tkr.mk ⟨y, loc, day, cs, tk, 0, y, z, 0, 1, []⟩ ⟨some ⟨rb, ro, none⟩, mm, mm⟩ ⟨xq, tk.length, xz⟩ ⟨none, 0, 0⟩ := ⟨_, rfl⟩
          have HYC : Hid (yr.cells = [.int .u64 y, .string loc, .int .i64 day, .slice (some ⟨rb, ro, none⟩) mm mm, .slice xq tk.length xz, .int .u64 0, .int .u64 y, .int .u64 z, .int .i64 0, .int .i64 1, .slice none 0 0]) := Lib.hid (by rw [hyr]; rfl)
          have HYT : Hid (yr.t = ⟨y, loc, day, cs, tk, 0, y, z, 0, 1, []⟩) := Lib.hid (by rw [hyr])
          have HTY : Hid (TI w.heap.size w7 rb yr) := Lib.hid (by rw [hyr]; exact ⟨HLC.out, fun b hb => by injection hb with hb; exact hb.symm, HXO.out, ⟨rfl, rfl⟩, tkI_wf HYU.out HZU.out HDY.out hloc (fun c hc => (HVB.out c hc).2) HTX.out.2.1⟩)
          clear hyr
          have HL1 : Hid (LS Tkr.cells 11 (w7.alloc (.cells #[.int .u64 y, .string loc, .int .i64 day, .slice (some ⟨rb, ro, none⟩) mm mm, .slice xq tk.length xz, .int .u64 0, .int .u64 y, .int .u64 z, .int .i64 0, .int .i64 1, .slice none 0 0] 45 (0, 0))) (.slice (some ⟨w7.heap.size, 0, none⟩) 1 1) [yr]) := Lib.hid (row_one (x := yr) (new_rowW _ _ _ rfl) (by rw [HYC.out]) Tkr.cells_length (by decide))
          have HB1 := Lib.hid (HB.out.trans (HBN.out.mono HB.out.size))
          have HK3 : Hid (k ≤ 1000) := Lib.hid (by have := HN4.out; omega)
          go_upto_region 18 with (at_builtin; (refine wpList_append_recs elemTk rfl _ _ rfl w.heap.size _ k _ rfl HO1.out _ _ rfl HL1.out (by have := HK3.out; simp; omega) HB1.out.size ?_); intro v1 w9 hown1 hg1 hn1 hat1; (obtain ⟨q1, z1, hv1⟩ := rec_formT hown1); subst hv1; have HOW1 := Lib.hid hown1; have HGR := Lib.hid hg1; clear hown1 hg1 hn1 hat1)
          clear f1 f2
          have HRWA := Lib.hid ((HBN.out.block _ (block_lt HRW.out)).trans HRW.out)
          have HNO : Hid (∀ b, (Value.slice qo k co).ownBlock = some b → b ≠ rb) := Lib.hid (own_neT HO1.out HRWA.out (by decide))
          have HB9 := Lib.hid (HB1.out.grown HGR.out HB1.out.size (fun b hb => (recs_base HO1.out hb).1))
          have HTI9 := Lib.hid (fun x hx => ((HTI.out x hx).below HBN.out).grown HO1.out HGR.out HRWA.out (by decide) (by decide))
          have HTY9 := Lib.hid ((HTY.out.below HBN.out).grown HO1.out HGR.out HRWA.out (by decide) (by decide))
          have HPO9 := Lib.hid (own_apartT (recs_below HPO.out HBN.out) HO1.out HGR.out (by decide))
          have HLT9 := Lib.hid ((HLT.out.below HBN.out).keep HGR.out.size fun b hb hl => HGR.out.block b hl (fun e => HNO.out b e.symm (by injection hb with hb; exact hb.symm)))
          have HRW9 := Lib.hid ((HGR.out.block _ (block_lt HRWA.out) (fun e => HNO.out rb e.symm rfl)).trans HRWA.out)
          clear HB1 HO1 HL1 HBN HGR HTI HTY HPO HLT HRW HRWA HNO HLC HXO HBX6 HB HOL HO
          generalize w9 = w8 at *
          have hvv1 := HVV.out.1; have hvv2 := HVV.out.2; have hxx1 := HTT.out.1; have hxx2 := HTT.out.2
          have HBM := Lib.hid ((Below.refl w8.heap.size w8).alloc (Nat.le_refl _) (.cells #[.int .i64 vv, .int .i64 xx] 2 (0, 0)))
          have HLA : Hid (LS i64C 1 (w8.alloc (.cells #[.int .i64 vv, .int .i64 xx] 2 (0, 0))) (.slice (some ⟨w8.heap.size, 0, none⟩) 2 2) [vv, xx]) := Lib.hid (ls_new (enc := i64C) (fun _ => rfl) (by decide) w8 _ [vv, xx] (by simp [maxLen]) _ rfl)
          have HAL : Hid (Dk.allN [vv, xx] = vv + xx) := Lib.hid (by show vv + (xx + 0) = vv + xx; omega)
          go_wp2_with fail
          refine (dall_any [vv, xx] _ 2 2 _ HLA.out (by intro u hu; simp only [List.mem_cons, List.not_mem_nil, or_false] at hu; rcases hu with rfl | rfl <;> omega) (by decide)).mono ?_
          rintro e wq ⟨rfl, rfl⟩
          rw [HAL.out]
          replace HB9 := Lib.hid (HB9.out.trans (HBM.out.mono HB9.out.size))
          replace HOW1 := Lib.hid (recs_below HOW1.out HBM.out)
          replace HTI9 := Lib.hid (fun x hx => (HTI9.out x hx).below HBM.out)
          replace HTY9 := Lib.hid (HTY9.out.below HBM.out)
          replace HPO9 := Lib.hid (recs_below HPO9.out HBM.out)
          replace HLT9 := Lib.hid (HLT9.out.below HBM.out)
          replace HRW9 := Lib.hid ((HBM.out.block _ (block_lt HRW9.out)).trans HRW9.out)
          clear HBM HLA HAL
          generalize w8.alloc (.cells #[.int .i64 vv, .int .i64 xx] 2 (0, 0)) = wa at *
          have HBN := Lib.hid ((Below.refl wa.heap.size wa).alloc (Nat.le_refl _) (.cells #[.int .i64 day, .int .u64 y, .int .i64 1, .int .i64 1, .int .i64 (vv + xx), .int .i64 (-vv), .int .i64 0, .int .i64 (-xx), .int .i64 0, .int .i64 0] 59 (0, 0)))
          have HP1 := Lib.hid (recs_below HPO9.out HBN.out)
          have HPE : Hid (Dk.poI day (Dk.tkI day loc fl ts z k y) = ⟨day, y, 1, 1, vv + xx, -vv, 0, -xx, 0, 0⟩) := Lib.hid (by rw [HTKI.out]; unfold Dk.poI; dsimp only; rw [HVE.out, HXE.out])
          have HL2 : Hid (LS Pst.cells 10 (wa.alloc (.cells #[.int .i64 day, .int .u64 y, .int .i64 1, .int .i64 1, .int .i64 (vv + xx), .int .i64 (-vv), .int .i64 0, .int .i64 (-xx), .int .i64 0, .int .i64 0] 59 (0, 0))) (.slice (some ⟨wa.heap.size, 0, none⟩) 1 1) [Dk.poI day (Dk.tkI day loc fl ts z k y)]) := Lib.hid (row_one (x := Dk.poI day (Dk.tkI day loc fl ts z k y)) (new_rowW _ _ _ rfl) (by rw [HPE.out]; rfl) (fun _ => rfl) (by decide))
          have HB1 := Lib.hid (HB9.out.trans (HBN.out.mono HB9.out.size))
          go_upto_region 19 with (at_builtin; (refine wpList_append_recs elemPd rfl _ _ rfl w.heap.size _ k _ rfl HP1.out _ _ rfl HL2.out (by have := HK3.out; simp; omega) HB1.out.size ?_); intro v1 w9 hown1 hg1 hn1 hat1; (obtain ⟨q2, z2, hv1⟩ := rec_formT hown1); subst hv1; have HPW1 := Lib.hid hown1; have HGR := Lib.hid hg1; clear hown1 hg1 hn1 hat1)
          have HRWA := Lib.hid ((HBN.out.block _ (block_lt HRW9.out)).trans HRW9.out)
          have HNO : Hid (∀ b, (Value.slice qp k cp).ownBlock = some b → b ≠ rb) := Lib.hid (own_neT HP1.out HRWA.out (by decide))
          have HBZ := Lib.hid (HB1.out.grown HGR.out HB1.out.size (fun b hb => (recs_base HP1.out hb).1))
          have HTIZ := Lib.hid (fun x hx => ((HTI9.out x hx).below HBN.out).grown HP1.out HGR.out HRWA.out (by decide) (by decide))
          have HTYZ := Lib.hid ((HTY9.out.below HBN.out).grown HP1.out HGR.out HRWA.out (by decide) (by decide))
          have HOZ := Lib.hid (own_apartT (recs_below HOW1.out HBN.out) HP1.out HGR.out (by decide))
          have HLTZ := Lib.hid ((HLT9.out.below HBN.out).keep HGR.out.size fun b hb hl => HGR.out.block b hl (fun e => HNO.out b e.symm (by injection hb with hb; exact hb.symm)))
          have HRWZ := Lib.hid ((HGR.out.block _ (block_lt HRWA.out) (fun e => HNO.out rb e.symm rfl)).trans HRWA.out)
          clear HB1 HP1 HL2 HBN HGR HTI9 HTY9 HPO9 HLT9 HRW9 HRWA HNO HB9 HOW1
          generalize w9 = wz at *
          have HT2 : Hid (Dk.tksI day loc fl ts z 0 (l.take (k + 1)) = Dk.tksI day loc fl ts z 0 (l.take k) ++ [Dk.tkI day loc fl ts z k y]) := Lib.hid (by rw [Tkt.take_snocT HY.out, Dk.tksI_snoc, List.length_take, Nat.zero_add, show min k l.length = k by have := HNL.out; omega])
          go_wp2_with fail
          go_roundw
          case rel =>
            (first | skip | (iterate 24 apply Exists.intro))
            rw [hk4] at HLTZ
            refine ⟨k + 1, ro2, rc - mm, q1, q2, z1, z2, rs ++ [yr], by omega, rfl, rfl, rfl, by go_num, HLTZ.out, HOZ.out, ?_, ?_, ?_, HBZ.out, HRWZ.out⟩
            · rw [List.map_append, HRS.out, HT2.out, List.map_cons, List.map_nil, HYT.out, HTKI.out]
            · intro x hx; rcases List.mem_append.1 hx with hx | hx
              · exact HTIZ.out x hx
              · obtain rfl := List.mem_singleton.1 hx; exact HTYZ.out
            · rw [HT2.out, List.map_append]; exact HPW1.out
          case measure => simp [intOf]; omega
    · obtain rfl : k = n3 := by omega
      have HTK : Hid (l.take k = l) := Lib.hid (List.take_of_length_le (by have := HNL.out; omega))
      rw [HTK.out] at HRS HPO
      have HRL := Lib.hid (recs_cases HO.out Tkr.cells_length (by decide)).1
      go_wp2_with fail
      go_ret3
      refine ⟨HB.out, _, _, rs, rfl, by rw [HZ2.out]; exact HRS.out, ⟨by rw [← HRL.out]; exact HO.out, fun y hy => (HTI.out y hy).tn HRB.out⟩, ?_⟩
      rw [HZ2.out, ← HNL.out]
      exact HPO.out

end Go.Proofs.Ytadabjkhiaidcaa
