/- The law DeskSales (chapter 15). -/
import Derived.Test.YtadabjkhiaidcaaDsl48
import Derived.Test.YtadabjkhiaidcaaDsl50
import Derived.Test.YtadabjkhiaidcaaDsl51
import Derived.Test.YtadabjkhiaidcaaDsl24
import Derived.Test.YtadabjkhiaidcaaDsl36
import Derived.Test.YtadabjkhiaidcaaDsl1
import Derived.Test.YtadabjkhiaidcaaRows
import Derived.ChangeMaps5
import Derived.ProofKit

set_option linter.unusedVariables false
set_option linter.unusedSimpArgs false
namespace Go.Proofs.Ytadabjkhiaidcaa.deskSales
open Go.ChangeShapes Go.WideShapes Go.ChangeAt Go.RowKit Go.Deep
open Go.ChangeMaps (open_string shut_string)
attribute [local go_sem ↓] Cp_execLoad Cp_execStore

attribute [local go_sem] Cp_load Cp_store loL_drew okL_drew there_sc World.there_drew

def T (day : Int) (loc : ByteArray) (fl : List Cpn) (ts : List Txx) (l : List Int) : List Tk := if Dk.errI day loc fl ts l = 0 then Dk.tksI day loc fl ts (l.headD 0) 0 l else []
def P (day : Int) (loc : ByteArray) (fl : List Cpn) (ts : List Txx) (l : List Int) : List Pst := (T day loc fl ts l).map (Dk.poI day)
def Iss (E : Int) (S : List Tk) (Q : List Pst) (w : World) (e : Ending) (w' : World) : Prop := Below w.heap.size w w' ∧ ∃ (v1 v2 : Value) (rs : List Tkr) (m : Nat), e = .returned (.tuple #[v1, v2, .int .i64 E]) ∧ rs.map Tkr.t = S ∧ TLn w.heap.size w' v1 rs ∧ w'.ownsRow w.heap.size 59 10 v2 m (encL Pst.cells Q)
theorem dissue_all (day : Int) (loc : ByteArray) (fl : List Cpn) (ts : List Txx) (l : List Int) (p q r : Option Addr) (n cap n2 c2 n3 c3 : Nat) (w : World) (hloc : loc.size ≤ maxLen) (hf : LS Cpn.cells 6 w (.slice p n cap) fl) (hx : LS Txx.cells 2 w (.slice q n2 c2) ts) (hl : LS u64C 1 w (.slice r n3 c3) l) (hu : ∀ m ∈ l, U64 m) (hn : n ≤ 1000) : Calls Try.prog 7 #[.int .i64 day, .string loc, .slice p n cap, .slice q n2 c2, .slice r n3 c3] w (Iss (Dk.errI day loc fl ts l) (T day loc fl ts l) (P day loc fl ts l) w) := by
  by_cases hE : Dk.errI day loc fl ts l = 0
  · refine (dissue_ok day loc fl ts l p q r n cap n2 c2 n3 c3 w hloc hf hx hl hu hn hE).mono ?_
    rintro e w' ⟨hb, v1, v2, rs, rfl, hrs, htl, hps⟩
    unfold P T
    rw [if_pos hE]
    exact ⟨hb, v1, v2, rs, _, by rw [hE], hrs, htl, hps⟩
  · refine (dissue_bad day loc fl ts l p q r n cap n2 c2 n3 c3 w hloc hf hx hl hu hn hE).mono ?_
    rintro e w' ⟨rfl, hb⟩
    unfold P T
    rw [if_neg hE]
    exact ⟨hb, _, _, [], 0, rfl, rfl, ⟨World.ownsRow_nil _ _ _ _, by simp⟩, World.ownsRow_nil _ _ _ _⟩
theorem rissue_all (day : Int) (loc : ByteArray) (fl : List Cpn) (ts : List Txx) (l : List Int) (p q r : Option Addr) (n cap n2 c2 n3 c3 : Nat) (w : World) (hloc : loc.size ≤ maxLen) (hf : LS Cpn.cells 6 w (.slice p n cap) fl) (hx : LS Txx.cells 2 w (.slice q n2 c2) ts) (hl : LS u64C 1 w (.slice r n3 c3) l) (hu : ∀ m ∈ l, U64 m) : Calls Try.prog 8 #[.int .i64 day, .string loc, .slice p n cap, .slice q n2 c2, .slice r n3 c3] w (Iss (Dk.errI day loc fl ts l) (T day loc fl ts l) (P day loc fl ts l) w) := by
  by_cases hE : Dk.errI day loc fl ts l = 0
  · refine (rissue_ok day loc fl ts l p q r n cap n2 c2 n3 c3 w hloc hf hx hl hu hE).mono ?_
    rintro e w' ⟨hb, v1, v2, rs, rfl, hrs, htl, hps⟩
    unfold P T
    rw [if_pos hE]
    exact ⟨hb, v1, v2, rs, _, by rw [hE], hrs, htl, hps⟩
  · refine (rissue_bad day loc fl ts l p q r n cap n2 c2 n3 c3 w hloc hf hx hl hu hE).mono ?_
    rintro e w' ⟨rfl, hb⟩
    unfold P T
    rw [if_neg hE]
    exact ⟨hb, _, _, [], 0, rfl, rfl, ⟨World.ownsRow_nil _ _ _ _, by simp⟩, World.ownsRow_nil _ _ _ _⟩
theorem own_above {w w' : World} {b e n m : Nat} {v : Value} {xs : List Value} (h : w.ownsRow b e n v m xs) (k : Above b w w') : w'.ownsRow b e n v m xs := by
  obtain ⟨h1, h2 | ⟨q, cap, cur, rfl, hq, hh, h3⟩⟩ := h
  · exact ⟨h1, .inl h2⟩
  · exact ⟨h1, .inr ⟨q, cap, cur, rfl, hq, (k.block q hq (block_lt hh)).trans hh, h3⟩⟩
theorem tln_above {b : Nat} {w w' : World} {v : Value} {l : List Tkr} (h : TLn b w v l) (k : Above b w w') : TLn b w' v l := ⟨own_above h.1 k, fun y hy => (h.2 y hy).above k⟩
theorem above_only {g b : Nat} {w w' : World} (h : Only g w w') (hg : g < b) : Above b w w' := ⟨h.size, fun q hq hl => h.block q hl (by omega)⟩
def Both (S : List Tk) (Q : List Pst) (v1 v2 v3 v4 : Value) (W : World) : Prop := ∃ (rs rs' : List Tkr), rs.map Tkr.t = S ∧ rs'.map Tkr.t = S ∧ TL W v1 rs ∧ TL W v3 rs' ∧ LS Pst.cells 10 W v2 Q ∧ LS Pst.cells 10 W v4 Q
theorem tail (S : List Tk) (Q : List Pst) (v1 v2 v3 v4 : Value) (W : World) (h : Both S Q v1 v2 v3 v4 W) : ∃ p1 n1 c1 p2 n2 c2 p3 n3 c3 p4 c4, v1 = .slice p1 n1 c1 ∧ v2 = .slice p2 n2 c2 ∧ v3 = .slice p3 n3 c3 ∧ v4 = .slice p4 n2 c4 ∧ (∀ U, Below W.heap.size W U → Calls Try.prog 9 #[.slice p1 n1 c1, .slice p3 n3 c3] U fun e w' => e = .returned (.bool true) ∧ Below U.heap.size U w') ∧ (∀ U, Below W.heap.size W U → Calls Try.prog 10 #[.slice p2 n2 c2, .slice p4 n2 c4] U fun e w' => e = .returned (.bool true) ∧ Below U.heap.size U w') := by
  obtain ⟨rs, rs', h1, h2, h3, h4, h5, h6⟩ := h
  obtain ⟨p1, c1, rfl⟩ := h3.1.shape
  obtain ⟨p3, c3, rfl⟩ := h4.1.shape
  obtain ⟨p2, c2, rfl⟩ := h5.shape
  obtain ⟨p4, c4, rfl⟩ := h6.shape
  exact ⟨p1, _, c1, p2, _, c2, p3, _, c3, p4, c4, rfl, rfl, rfl, rfl, fun U hU => same15_any rs rs' p1 p3 _ _ c1 c3 U (h3.below hU) (h4.below hU) (h1.trans h2.symm), fun U hU => rSame_anyD Q p2 p4 _ c2 c4 U (h5.below hU) (h6.below hU)⟩
set_option maxRecDepth 8000 in
set_option maxHeartbeats 4000000 in
theorem walk_k (day : Int) (loc : ByteArray) (fl : List Cpn) (ts : List Txx) (l : List Int) (p q r : Option Addr) (n cap n2 c2 n3 c3 : Nat) (k : Int) (w : World) (hloc : loc.size ≤ maxLen) (hf : LS Cpn.cells 6 w (.slice p n cap) fl) (hx : LS Txx.cells 2 w (.slice q n2 c2) ts) (hl : LS u64C 1 w (.slice r n3 c3) l) (hu : ∀ m ∈ l, U64 m) (hb : (decide (40 < fl.length) || decide (20 < ts.length) || decide (20 < n3) || decide (100 < loc.size)) = true) : Calls Try.prog 3 #[.int .i64 day, .string loc, .slice p n cap, .slice q n2 c2, .slice r n3 c3, .int .i64 k] w fun e w' => e = .returned (.bool true) ∧ Below w.heap.size w w' := by
  have HMU := Lib.hid (rmuch15_any fl p n cap ts q n2 c2 w hf hx)
  generalize (decide (40 < fl.length) || decide (20 < ts.length)) = b1 at *
  have hnl := hl.length
  have h3 : n3 ≤ 9223372036854775807 := by have h1 := hnl.2.1; have h2 := hnl.2.2; simp only [maxLen] at h2; omega
  have h4 : loc.size ≤ 9223372036854775807 := by have h2 := hloc; simp only [maxLen] at h2; omega
  obtain ⟨b2, hb2⟩ : ∃ b, decide (20 < n3) = b := ⟨_, rfl⟩
  obtain ⟨b3, hb3⟩ : ∃ b, decide (100 < loc.size) = b := ⟨_, rfl⟩
  rw [hb2, hb3] at hb
  have hb2' : decide ((20 : Int) < (n3 : Int)) = b2 := by rw [← hb2]; exact decide_eq_decide.2 (by omega)
  have hb3' : decide ((100 : Int) < (loc.size : Int)) = b3 := by rw [← hb3]; exact decide_eq_decide.2 (by omega)
  clear hnl hf hx hl hb2 hb3
  go_enter Try.func3, Try.ntmps3
  go_wp2_with fail
  refine HMU.out.mono ?_
  rintro e w' ⟨rfl, rfl⟩
  cases b1
  · cases b2
    · obtain rfl : b3 = true := by simpa using hb
      go_wp2_with fail
      refine (known15_any _).mono ?_
      rintro e w9 ⟨rfl, hb9⟩
      go_wp2
      go_ret
      exact ⟨rfl, hb9⟩
    · go_wp2_with fail
      refine (known15_any _).mono ?_
      rintro e w9 ⟨rfl, hb9⟩
      go_wp2
      go_ret
      exact ⟨rfl, hb9⟩
  · go_wp2_with fail
    refine (known15_any _).mono ?_
    rintro e w9 ⟨rfl, hb9⟩
    go_wp2
    go_ret
    exact ⟨rfl, hb9⟩
set_option maxRecDepth 8000 in
set_option maxHeartbeats 4000000 in
theorem walk_ok (day : Int) (loc : ByteArray) (fl : List Cpn) (ts : List Txx) (l : List Int) (p q r : Option Addr) (n cap n2 c2 n3 c3 : Nat) (k : Int) (w : World) (hloc : loc.size ≤ maxLen) (hf : LS Cpn.cells 6 w (.slice p n cap) fl) (hx : LS Txx.cells 2 w (.slice q n2 c2) ts) (hl : LS u64C 1 w (.slice r n3 c3) l) (hu : ∀ m ∈ l, U64 m) (h1 : fl.length ≤ 40) (h2 : ts.length ≤ 20) (h3 : n3 ≤ 20) (h4 : loc.size ≤ 100) : Calls Try.prog 3 #[.int .i64 day, .string loc, .slice p n cap, .slice q n2 c2, .slice r n3 c3, .int .i64 k] w fun e w' => e = .returned (.bool true) ∧ Below w.heap.size w w' := by
  have HMU := Lib.hid (rmuch15_any fl p n cap ts q n2 c2 w hf hx)
  rw [decide_eq_false (show ¬ 40 < fl.length by omega), decide_eq_false (show ¬ 20 < ts.length by omega)] at HMU
  have hnl := hf.length.1
  obtain rfl : n = fl.length := by omega
  have h3' : ¬ (20 : Int) < (n3 : Int) := by omega
  have h4' : ¬ (100 : Int) < (loc.size : Int) := by omega
  have HN := Lib.hid h1
  have HF := Lib.hid hf; have HX := Lib.hid hx; have HL := Lib.hid hl
  have HDI := Lib.hid (fun (p : Option Addr) (cap : Nat) W h1' h2' h3'' => dissue_all day loc fl ts l p q r fl.length cap n2 c2 n3 c3 W hloc h1' h2' h3'' hu (by omega))
  have HRI := Lib.hid (fun W h1' h2' h3'' => rissue_all day loc fl ts l p q r fl.length cap n2 c2 n3 c3 W hloc h1' h2' h3'' hu)
  generalize Dk.errI day loc fl ts l = E at *
  generalize T day loc fl ts l = S at *
  generalize P day loc fl ts l = Q at *
  have HDN := Lib.hid (fun W => dneed_any k W); have HRN := Lib.hid (fun W => rneed_any k W)
  generalize Dk.need k = NK at *
  clear hf hx hl hu hloc h1 h2 h3 h4 hnl
  go_enter Try.func3, Try.ntmps3
  go_wp2_with fail
  refine HMU.out.mono ?_
  rintro e w' ⟨rfl, rfl⟩
  go_wp2_with (at_builtin; (refine wpList_append_recs elemCp rfl _ _ rfl w.heap.size _ 0 [] rfl (World.ownsRow_nil _ _ _ _) _ fl rfl HF.out (by have := HN.out; omega) (Nat.le_refl _) ?_); intro v' w1 hown hg1 hnil hblk)
  simp only [Nat.zero_add, List.nil_append] at hown
  have HB1 := Lib.hid ((Below.refl w.heap.size w).grown hg1 (Nat.le_refl _) (fun b hb => nomatch hb))
  have HLO := Lib.hid (LS.of_own hown Cpn.cells_length (by decide))
  have HF1 := Lib.hid (HF.out.below HB1.out); have HX1 := Lib.hid (HX.out.below HB1.out); have HL1 := Lib.hid (HL.out.below HB1.out)
  have HOW := Lib.hid hown
  clear h3' h4' hown hg1 hnil hblk HMU HX HL
  obtain ⟨po, zo, hvo⟩ := HLO.out.shape
  subst hvo
  go_wp2_with fail
  refine (HDI.out po zo w1 HLO.out HX1.out HL1.out).mono ?_
  rintro e w4 ⟨hb, v1, v2, rs, m1, rfl, hrs, htl, hps⟩
  have HB4 := Lib.hid hb; have HRS := Lib.hid hrs; have HTL := Lib.hid htl; have HPS := Lib.hid hps
  clear hb hrs htl hps
  have HF4 := Lib.hid (HF1.out.below HB4.out); have HX4 := Lib.hid (HX1.out.below HB4.out); have HL4 := Lib.hid (HL1.out.below HB4.out)
  go_wp2_with fail
  refine (HRI.out w4 HF4.out HX4.out HL4.out).mono ?_
  rintro e w5 ⟨hb, v3, v4, rs', m2, rfl, hrs, htl, hps⟩
  have HB5 := Lib.hid hb
  have HF5 := Lib.hid (HF4.out.below hb)
  have HBO : Hid (∀ W, Above w1.heap.size w5 W → Both S Q v1 v2 v3 v4 W) := Lib.hid (fun W hW => by
    have ha := (Above.of_below (base := w1.heap.size) HB5.out).trans hW
    have hc : Above w4.heap.size w5 W := ⟨hW.size, fun b hb hl => hW.block b (by have := HB4.out.size; omega) hl⟩
    exact ⟨rs, rs', HRS.out, hrs, (tln_above HTL.out ha).tl, (tln_above htl hc).tl, LS.of_own (own_above HPS.out ha) (fun _ => rfl) (by decide), LS.of_own (own_above hps hc) (fun _ => rfl) (by decide)⟩)
  have HBW := Lib.hid (HB1.out.trans ((HB4.out.trans (HB5.out.mono HB4.out.size)).mono HB1.out.size))
  have HB15 := Lib.hid (HB4.out.trans (HB5.out.mono HB4.out.size))
  clear hb hrs htl hps
  go_wp2_with fail
  rcases HOW.out with ⟨hlen, ⟨hv, h0⟩ | ⟨g, cap', cur, hv, hg, hh, hnc, hcm, hcs, htk⟩⟩
  · obtain ⟨rfl, rfl⟩ : po = none ∧ zo = 0 := by injection hv with a b c; exact ⟨a, c⟩
    clear hv hlen HOW HLO HDI HRI
    go_loopw [20] (fun iv wr => iv = .int .i64 0 ∧ wr = w5) (fun _ _ => 0)
    case atStart => exact ⟨rfl, rfl⟩
    case round =>
      obtain ⟨hi, hw⟩ := hrel
      subst hi
      have hw := hw.symm
      subst hw
      have hz : ¬ ((0 : Int) < (fl.length : Int)) := by omega
      have hob := HBO.out w5 (Above.refl _ _)
      have HBZ := HBW
      obtain ⟨p1, n1, c1, p2', n2', c2', p3, n3', c3', p4, c4, rfl, rfl, rfl, rfl, hs1, hs2⟩ := tail S Q v1 v2 v3 v4 _ hob
      have HS1 := Lib.hid hs1; have HS2 := Lib.hid hs2
      clear hob hs1 hs2 HBO HTL HPS HRS
      go_wp2_with fail
      refine (HS1.out _ (Below.refl _ _)).mono ?_
      rintro e w6 ⟨rfl, hb6⟩
      have HB6 := Lib.hid hb6
      clear hb6
      go_wp2_with fail
      refine (HS2.out _ HB6.out).mono ?_
      rintro e w7 ⟨rfl, hb7⟩
      have HB7 := Lib.hid (HB6.out.trans (hb7.mono HB6.out.size))
      clear hb7
      go_wp2_with fail
      refine (HDN.out _).mono ?_
      rintro e w' ⟨rfl, rfl⟩
      go_wp2_with fail
      refine (HRN.out _).mono ?_
      rintro e w' ⟨rfl, rfl⟩
      go_wp2_with fail
      refine (known15_any _).mono ?_
      rintro e w9 ⟨rfl, hb9⟩
      have HB9 := Lib.hid (HBZ.out.trans ((HB7.out.trans (hb9.mono HB7.out.size)).mono HBZ.out.size))
      clear hb9
      go_wp2
      go_ret
      exact ⟨rfl, HB9.out⟩
  · obtain ⟨rfl, hz⟩ : po = some ⟨g, 0, none⟩ ∧ zo = cap' := by injection hv with a b c; exact ⟨a, c⟩
    subst hz
    have HCUR : Hid (w5.heap[g]? = some (.cells cur 37 (0, 0))) := Lib.hid ((HB15.out.block g (block_lt hh)).trans hh)
    have HG := Lib.hid hg; have HGL := Lib.hid (block_lt hh); have HN6 : Hid (fl.length * 6 ≤ cur.size) := Lib.hid (by omega)
    have hrl := RowL.of_block hh Cpn.cells_length HN6.out htk
    have HA : Hid (∀ i y, fl[i]? = some y → ∀ q u, y.cells[q]? = some u → cur[i * 6 + q]? = some u) := Lib.hid (fun i y hy q u hu => by have := hrl.1 i y hy q u hu; rwa [cell_of_row w1 g _ _ _ _ hh] at this)
    clear hv hlen HOW HLO HDI HRI hh hnc hcm hcs htk hrl hg
    go_loopw [20] (fun iv wr => ∃ (kk : Nat) (es : Array Value), iv = .int .i64 kk ∧ kk ≤ fl.length ∧ wr.heap[g]? = some (.cells es 37 (0, 0)) ∧ es.size = cur.size ∧ (∀ i y, kk ≤ i → fl[i]? = some y → ∀ q u, y.cells[q]? = some u → es[i * 6 + q]? = some u) ∧ Only g w5 wr) (fun iv _ => fl.length - (intOf iv).toNat)
    case atStart => exact ⟨0, cur, rfl, Nat.zero_le _, HCUR.out, rfl, fun i y _ hy => HA.out i y hy, Only.refl _ _⟩
    case round =>
      have h40 := HN.out
      obtain ⟨kk, es, rfl, hk, hrow, hes, hA, hon⟩ := hrel
      have HR := Lib.hid hrow; have HES := Lib.hid hes; have HA2 := Lib.hid hA; have HON := Lib.hid hon
      have HBZ := Lib.hid (Only.below HBW.out HG.out HBW.out.size hon)
      clear hrow hes hA hon HA HCUR
      by_cases hlt : kk < fl.length
      · obtain ⟨y, hy⟩ : ∃ y, fl[kk]? = some y := ⟨_, List.getElem?_eq_getElem hlt⟩
        obtain ⟨b, o, hp, hb, hr⟩ := (HF.out.below HBZ.out).at hy
        subst hp
        have hro : wr.rangeAt g (kk * 6) y.cells := fun q u hu => by rw [cell_of_row wr g _ _ _ _ HR.out]; exact HA2.out kk y (Nat.le_refl _) hy q u hu
        obtain ⟨f1, f2⟩ := loL_of hro (Cpn.cells_length y)
        obtain ⟨f3, f4⟩ := loL_of hr (Cpn.cells_length y)
        have kc : wr.cell? ⟨g, kk * 6 + 2, none⟩ = some (.int .i64 y.va) := hro 2 _ rfl
        have kf := fun j => frozen_of_row wr g j _ _ HR.out
        have hE : ∀ W, (Op.equalIn 10000 37 (.agg y.cells.toArray) (.agg y.cells.toArray)).run Try.prog W = .ok true W := fun W => by have := eqInCp y y W; rwa [(Cpn.eqB_iff y y).2 rfl] at this
        have hG := guardneqCp
        clear hro hr hy
        generalize y.cells = cy at *
        go_wp2_with fail
        go_region
        go_wp2_with fail
        go_roundw
        case rel =>
          refine ⟨kk + 1, _, by go_num, by omega, row_put1 (W := wr.drew) HR.out (kk * 6 + 2) _, by simp [HES.out], fun i z hi hz q u hu => ?_, HON.out.drew.setCell _ _⟩
          have hq := (List.getElem?_eq_some_iff.1 hu).1
          rw [Cpn.cells_length] at hq
          rw [Array.getElem?_setIfInBounds_ne (by omega)]
          exact HA2.out i z (by omega) hz q u hu
        case measure => simp [intOf]; omega
      · obtain rfl : kk = fl.length := by omega
        have hob := HBO.out wr (above_only HON.out HGL.out)
        obtain ⟨p1, n1, c1, p2', n2', c2', p3, n3', c3', p4, c4, rfl, rfl, rfl, rfl, hs1, hs2⟩ := tail S Q v1 v2 v3 v4 _ hob
        have HS1 := Lib.hid hs1; have HS2 := Lib.hid hs2
        clear hob hs1 hs2 HBO HTL HPS HRS
        go_wp2_with fail
        refine (HS1.out _ (Below.refl _ _)).mono ?_
        rintro e w6 ⟨rfl, hb6⟩
        have HB6 := Lib.hid hb6
        clear hb6
        go_wp2_with fail
        refine (HS2.out _ HB6.out).mono ?_
        rintro e w7 ⟨rfl, hb7⟩
        have HB7 := Lib.hid (HB6.out.trans (hb7.mono HB6.out.size))
        clear hb7
        go_wp2_with fail
        refine (HDN.out _).mono ?_
        rintro e w' ⟨rfl, rfl⟩
        go_wp2_with fail
        refine (HRN.out _).mono ?_
        rintro e w' ⟨rfl, rfl⟩
        go_wp2_with fail
        refine (known15_any _).mono ?_
        rintro e w9 ⟨rfl, hb9⟩
        have HB9 := Lib.hid (HBZ.out.trans ((HB7.out.trans (hb9.mono HB7.out.size)).mono HBZ.out.size))
        clear hb9
        go_wp2
        go_ret
        exact ⟨rfl, HB9.out⟩
theorem walk (day : Int) (loc : ByteArray) (fl : List Cpn) (ts : List Txx) (l : List Int) (p q r : Option Addr) (n cap n2 c2 n3 c3 : Nat) (k : Int) (w : World) (hloc : loc.size ≤ maxLen) (hf : LS Cpn.cells 6 w (.slice p n cap) fl) (hx : LS Txx.cells 2 w (.slice q n2 c2) ts) (hl : LS u64C 1 w (.slice r n3 c3) l) (hu : ∀ m ∈ l, U64 m) : Calls Try.prog 3 #[.int .i64 day, .string loc, .slice p n cap, .slice q n2 c2, .slice r n3 c3, .int .i64 k] w fun e w' => e = .returned (.bool true) ∧ Below w.heap.size w w' := by
  cases hb : (decide (40 < fl.length) || decide (20 < ts.length) || decide (20 < n3) || decide (100 < loc.size)) with
  | true => exact walk_k day loc fl ts l p q r n cap n2 c2 n3 c3 k w hloc hf hx hl hu hb
  | false =>
    simp only [Bool.or_eq_false_iff, decide_eq_false_iff_not, Nat.not_lt] at hb
    exact walk_ok day loc fl ts l p q r n cap n2 c2 n3 c3 k w hloc hf hx hl hu hb.1.1.1 hb.1.1.2 hb.1.2 hb.2
theorem open_nums {fuel : Nat} {H : Type} {enc : TypeId × Value → H} {W : World} {held : Bool} {v : Value} {x : DataW H × List MemPlace} (h : DataW.trod enc Try.prog W 0 (fun _ => true) held fuel 24 [v] = some x) : ∃ l : List Int, LS u64C 1 W v l ∧ ∀ y ∈ l, U64 y :=
  open_recs (n := 3) (en := u64C) (ks := [.u64]) (fun y : Int => U64 y) (fun zs hz => by
    obtain ⟨z0, r0, rfl, w0, h⟩ := hz.consT
    obtain rfl := h.nilT
    exact ⟨z0, rfl, u64_wfT w0⟩) Try.underlying24 (by kernel_rfl) (by kernel_rfl) (by decide) h
set_option maxRecDepth 100000 in
theorem lifted (os : Os) (started : os.Started) (H : Type) (enc : TypeId × Value → H) :
    ReturnsInHanded {} Try.checked os 3 .any (Rows.deskSalesSpec.pre6 enc Try.prog Try.f3 Rows.deskSalesRow.domain false) (Rows.deskSalesSpec.post enc Try.prog Try.f3 false true false false) := by
  refine returnsInHanded_of_change (C := Try.checked) own started (by kernel_rfl) Try.func3
    (ChangeSpec.witness6 (enc := enc) (C := Try.checked) false ⟨#[], #[.int .i64 0, .string ByteArray.empty, .slice none 0 0, .slice none 0 0, .slice none 0 0, .int .i64 0], []⟩ 8 (by kernel_rfl) (by kernel_rfl) (by kernel_rfl) (by kernel_rfl)) ?_
  intro W base args ds gs before hval0 hW hcnd _
  have hval : ∀ (j : Nat) t v, Try.f3.params[j]? = some t → args[j]? = some v → Value.okWide Try.prog W .any base t v := hval0
  have hW' := hW
  obtain ⟨p, q, hA0, hV, rfl, hfz, hnd⟩ := hW
  have hA : DataW.TrodAll enc Try.prog W 0 (fun _ => true) true Try.f3.params.toList args.toList ds p := hA0
  rw [Try.params3] at hA hval
  obtain ⟨v0, vs0, d0, ds0, p0, q0, hargs, rfl, rfl, h0, r0⟩ := trodAll_cons hA
  obtain ⟨v1, vs1, d1, ds1, p1, q1, rfl, rfl, rfl, h1, r1⟩ := trodAll_cons r0
  obtain ⟨v2, vs2, d2, ds2, p2, q2, rfl, rfl, rfl, h2, r2⟩ := trodAll_cons r1
  obtain ⟨v3, vs3, d3, ds3, p3, q3, rfl, rfl, rfl, h3, r3⟩ := trodAll_cons r2
  obtain ⟨v4, vs4, d4, ds4, p4, q4, rfl, rfl, rfl, h4, r4⟩ := trodAll_cons r3
  obtain ⟨v5, vs5, d5, ds5, p5, q5, rfl, rfl, rfl, h5, r5⟩ := trodAll_cons r4
  obtain ⟨rfl, rfl, rfl⟩ := trodAll_nil r5
  obtain rfl : args = #[v0, v1, v2, v3, v4, v5] := by cases args; simp_all
  obtain ⟨day, rfl, rfl, rfl, wday⟩ := open_int Try.underlying3 (hval 0 3 v0 rfl rfl) h0
  obtain ⟨loc, rfl, rfl, rfl, wloc⟩ := open_string Try.underlying9 (hval 1 9 v1 rfl rfl) h1
  obtain ⟨fu2, x2, hf2⟩ := open_top Try.underlying22 (hval 2 _ v2 rfl rfl) h2
  obtain ⟨fl, hfl, wfl⟩ := open_cpns hf2
  obtain ⟨pf, cf, rfl⟩ := hfl.shape
  obtain ⟨fu3, x3, hf3⟩ := open_top Try.underlying23 (hval 3 _ v3 rfl rfl) h3
  obtain ⟨ts, hts, wts⟩ := open_txxs hf3
  obtain ⟨pt, ct, rfl⟩ := hts.shape
  obtain ⟨fu4, x4, hf4⟩ := open_top Try.underlying24 (hval 4 _ v4 rfl rfl) h4
  obtain ⟨l, hll, wl⟩ := open_nums hf4
  obtain ⟨pl, cl, rfl⟩ := hll.shape
  obtain ⟨k, rfl, rfl, rfl, wk⟩ := open_int Try.underlying3 (hval 5 3 v5 rfl rfl) h5
  clear hA0 hval0
  refine (walk day loc fl ts l pf pt pl _ cf _ ct _ cl k W wloc hfl hts hll wl).mono fun e W' ⟨he, hg⟩ => ?_
  subst he
  exact ⟨_, rfl, post_law laidOut rfl hW' ⟨rfl, rfl, rfl⟩ (by kernel_rfl) hg Try.underlying4 rfl⟩

theorem proved : Rows.DeskSalesSaid :=
  OpenClaim.holds_of_wide 3 Try.f3 rfl rfl rfl rfl rfl rfl rfl ⟨rfl, rfl, rfl, rfl, rfl⟩ rfl rfl rfl rfl rfl (by kernel_rfl) Try.func3 (by kernel_rfl)
    (of_decide_eq_true (by kernel_rfl)) (by unfold Func.isWrapper; first | (rw [if_pos (by decide +kernel)]; kernel_rfl) | (rw [if_neg (by decide +kernel)]; exact ⟨rfl, rfl⟩))
    (fun os started H enc _ => lifted os started H enc)
#print axioms proved

end Go.Proofs.Ytadabjkhiaidcaa.deskSales
