/- Contracts of the posting reference: Below, Above, Columns, Amounts, May. Contracts of the posting reference: Columns, Amounts, May. Postings in memory: how a slice of postings that came in reads, as a list of records of ten numbers. Plain definitions and facts on totals of postings; no program in sight. Small words on worlds; the contract of the posting chapter's rows (known). -/
import Derived.Test.YtbmphlpmipkpcaaGreatRma42
import Derived.Test.YtbmphlpmipkpcaaGreatRma1
import Derived.Deep.Slices
import Derived.Deep.Strs

section
set_option linter.unusedSimpArgs false
set_option linter.unusedVariables false
namespace Go.Proofs.YtbmphlpmipkpcaaGreat
open Go.RowKit

/-- six bools in a new slice -/
def BoolRow (w0 : World) (l : List Bool) (e : Ending) (w' : World) : Prop :=
  ∃ b, w0.heap.size ≤ b ∧ e = .returned (.slice (some ⟨b, 0, none⟩) 6 6) ∧ (∀ j, j < 6 → w'.cell? ⟨b, j, none⟩ = some (.bool (l.getD j false))) ∧ Below w0.heap.size w0 w'

theorem six_cells {P : Nat → Prop} (h0 : P 0) (h1 : P 1) (h2 : P 2) (h3 : P 3) (h4 : P 4) (h5 : P 5) : ∀ j, j < 6 → P j := by
  intro j hj
  rcases (by omega : j = 0 ∨ j = 1 ∨ j = 2 ∨ j = 3 ∨ j = 4 ∨ j = 5) with rfl | rfl | rfl | rfl | rfl | rfl <;> assumption

theorem below6 (w : World) (o0 o1 o2 o3 o4 o5 : Obj) : Below w.heap.size w ((((((w.alloc o0).alloc o1).alloc o2).alloc o3).alloc o4).alloc o5) :=
  ((((((Below.refl _ _).alloc (Nat.le_refl _) _).alloc (by simp) _).alloc (by simp; omega) _).alloc (by simp; omega) _).alloc (by simp; omega) _).alloc (by simp; omega) _

set_option maxHeartbeats 1000000 in
theorem rBelow_any (k : Int) (k1 : 1 ≤ k) (k5 : k ≤ 5) (w : World) :
    Calls Tryz.prog 197 #[.int .i64 k] w (BoolRow w (Post.belowRow k)) := by
  rcases (by omega : k = 1 ∨ k = 2 ∨ k = 3 ∨ k = 4 ∨ k = 5) with rfl | rfl | rfl | rfl | rfl
  all_goals
    go_enter Tryz.func197, Tryz.ntmps197
    go_wp2
    go_ret
  · exact ⟨w.heap.size, by omega, rfl, six_cells (by go_simp; rfl) (by go_simp; rfl) (by go_simp; rfl) (by go_simp; rfl) (by go_simp; rfl) (by go_simp; rfl), below6 _ _ _ _ _ _ _⟩
  · exact ⟨w.heap.size + 1, by omega, rfl, six_cells (by go_simp; rfl) (by go_simp; rfl) (by go_simp; rfl) (by go_simp; rfl) (by go_simp; rfl) (by go_simp; rfl), below6 _ _ _ _ _ _ _⟩
  · exact ⟨w.heap.size + 1 + 1, by omega, rfl, six_cells (by go_simp; rfl) (by go_simp; rfl) (by go_simp; rfl) (by go_simp; rfl) (by go_simp; rfl) (by go_simp; rfl), below6 _ _ _ _ _ _ _⟩
  · exact ⟨w.heap.size + 1 + 1 + 1, by omega, rfl, six_cells (by go_simp; rfl) (by go_simp; rfl) (by go_simp; rfl) (by go_simp; rfl) (by go_simp; rfl) (by go_simp; rfl), below6 _ _ _ _ _ _ _⟩
  · exact ⟨w.heap.size + 1 + 1 + 1 + 1, by omega, rfl, six_cells (by go_simp; rfl) (by go_simp; rfl) (by go_simp; rfl) (by go_simp; rfl) (by go_simp; rfl) (by go_simp; rfl), below6 _ _ _ _ _ _ _⟩
set_option maxHeartbeats 1000000 in
theorem rAbove_any (k : Int) (k1 : 1 ≤ k) (k5 : k ≤ 5) (w : World) :
    Calls Tryz.prog 198 #[.int .i64 k] w (BoolRow w (Post.aboveRow k)) := by
  rcases (by omega : k = 1 ∨ k = 2 ∨ k = 3 ∨ k = 4 ∨ k = 5) with rfl | rfl | rfl | rfl | rfl
  all_goals
    go_enter Tryz.func198, Tryz.ntmps198
    go_wp2
    go_ret
  · exact ⟨w.heap.size, by omega, rfl, six_cells (by go_simp; rfl) (by go_simp; rfl) (by go_simp; rfl) (by go_simp; rfl) (by go_simp; rfl) (by go_simp; rfl), below6 _ _ _ _ _ _ _⟩
  · exact ⟨w.heap.size + 1, by omega, rfl, six_cells (by go_simp; rfl) (by go_simp; rfl) (by go_simp; rfl) (by go_simp; rfl) (by go_simp; rfl) (by go_simp; rfl), below6 _ _ _ _ _ _ _⟩
  · exact ⟨w.heap.size + 1 + 1, by omega, rfl, six_cells (by go_simp; rfl) (by go_simp; rfl) (by go_simp; rfl) (by go_simp; rfl) (by go_simp; rfl) (by go_simp; rfl), below6 _ _ _ _ _ _ _⟩
  · exact ⟨w.heap.size + 1 + 1 + 1, by omega, rfl, six_cells (by go_simp; rfl) (by go_simp; rfl) (by go_simp; rfl) (by go_simp; rfl) (by go_simp; rfl) (by go_simp; rfl), below6 _ _ _ _ _ _ _⟩
  · exact ⟨w.heap.size + 1 + 1 + 1 + 1, by omega, rfl, six_cells (by go_simp; rfl) (by go_simp; rfl) (by go_simp; rfl) (by go_simp; rfl) (by go_simp; rfl) (by go_simp; rfl), below6 _ _ _ _ _ _ _⟩

end Go.Proofs.YtbmphlpmipkpcaaGreat
end

section
set_option linter.unusedSimpArgs false
set_option linter.unusedVariables false
namespace Go.Proofs.YtbmphlpmipkpcaaGreat
open Go.RowKit

set_option maxHeartbeats 2000000 in
theorem rColumns_any (k : Int) (am : List Int) (c b off : Nat) (k1 : 1 ≤ k) (k5 : k ≤ 5) (hlen : am.length = 6) (hc : 6 ≤ c) (w : World) (hb : b < w.heap.size)
    (hz : ∀ i, i < 6 → w.cell? ⟨b, off + i, none⟩ = some (.int .i64 (am.getD i 0))) :
    Calls Tryz.prog 157 #[.int .i64 k, .slice (some ⟨b, off, none⟩) 6 c] w fun e w' => e = .returned (.bool (Post.cols k am)) ∧ Below w.heap.size w w' := by
  have HZ := Lib.hid hz; clear hz
  have HL := Lib.hid hlen; clear hlen
  have HT := Lib.hid (fun i hi n => Post.fit_tables k1 k5 i hi n)
  have HSL := Lib.hid (Post.signs_len k1 k5)
  have HC : Hid (Post.cols k am = (!(am.any (Post.outB 1125899906842624)) && Post.fitAll (Post.signs k) am && decide (Post.sum am = 0) && !(decide (k = 5) && decide (am.getD 0 0 ≠ 0) && decide (am.getD 5 0 ≠ 0)))) := Lib.hid rfl
  go_enter Tryz.func157, Tryz.ntmps157
  go_wp2
  go_loopw [5, 6] (fun sm i wr => ∃ (j : Nat) (x : Int), j ≤ 6 ∧ i = .int .i64 j ∧ sm = .int .i64 x ∧ -((j : Int) * 1125899906842624) ≤ x ∧ x ≤ (j : Int) * 1125899906842624 ∧ Below w.heap.size w wr ∧
      (Post.sum am = x + Post.sum (am.drop j) ∧ Post.fitAll (Post.signs k) am = Post.fitAll ((Post.signs k).drop j) (am.drop j) ∧ am.any (Post.outB 1125899906842624) = (am.drop j).any (Post.outB 1125899906842624)))
    (fun _ i _ => 6 - (intOf i).toNat)
  case atStart => exact ⟨0, 0, by omega, rfl, rfl, by omega, by omega, Below.refl _ _, by simp, rfl, rfl⟩
  case round =>
    obtain ⟨j, x, hj, rfl, rfl, hx1, hx2, hbw, hrest⟩ := hrel
    have HR := Lib.hid hrest; clear hrest
    have HCW := Lib.hid (bcell hbw).1
    have hsz := hbw.size
    have hbr : b < wr.heap.size := by omega
    by_cases hlt : j < 6
    · have hcj : wr.cell? ⟨b, off + j, none⟩ = some (.int .i64 (am.getD j 0)) := by rw [HCW.out b _ hb]; exact HZ.out j hlt
      have hdr : am.drop j = am.getD j 0 :: am.drop (j + 1) := by
        rw [List.drop_eq_getElem_cons (by have := HL.out; omega)]
        simp [List.getD_eq_getElem?_getD, List.getElem?_eq_getElem (show j < am.length by have := HL.out; omega)]
      have hds : (Post.signs k).drop j = (Post.signs k).getD j 0 :: (Post.signs k).drop (j + 1) := by
        rw [List.drop_eq_getElem_cons (by have := HSL.out; omega)]
        simp [List.getD_eq_getElem?_getD, List.getElem?_eq_getElem (show j < (Post.signs k).length by have := HSL.out; omega)]
      have hft := HT.out j hlt (am.getD j 0)
      have HDR := Lib.hid hdr; clear hdr
      have HDS := Lib.hid hds; clear hds
      generalize am.getD j 0 = z at *
      obtain ⟨bl, hbl⟩ : ∃ q, (Post.belowRow k).getD j false = q := ⟨_, rfl⟩
      obtain ⟨ab, hab⟩ : ∃ q, (Post.aboveRow k).getD j false = q := ⟨_, rfl⟩
      rw [hbl, hab] at hft
      have HF := Lib.hid hft; clear hft
      have HBL := Lib.hid hbl; clear hbl
      have HAB := Lib.hid hab; clear hab
      by_cases hout : z < -1125899906842624 ∨ 1125899906842624 < z
      · have ho : Post.outB 1125899906842624 z = true := by unfold Post.outB; simp; omega
        have HO : Hid (Post.cols k am = false) := Lib.hid (by rw [HC.out, HR.out.2.2, HDR.out, Post.any_step ho]; rfl)
        clear ho
        rcases hout with hout | hout
        all_goals
          go_wp2
          go_ret
          exact ⟨ret_bool HO.out.symm, hbw⟩
      · have ho : Post.outB 1125899906842624 z = false := by unfold Post.outB; simp; omega
        have hz1 : -1125899906842624 ≤ z := by omega
        have hz2 : z ≤ 1125899906842624 := by omega
        clear hout
        have HO := Lib.hid ho; clear ho
        have HNO : Hid (Post.fit ((Post.signs k).getD j 0) z = false → Post.cols k am = false) := Lib.hid (fun h => by rw [HC.out, HR.out.2.1, HDS.out, HDR.out, Post.fitAll_step h]; simp)
        have HYES : Hid (Post.fit ((Post.signs k).getD j 0) z = true → Post.sum am = (x + z) + Post.sum (am.drop (j + 1)) ∧ Post.fitAll (Post.signs k) am = Post.fitAll ((Post.signs k).drop (j + 1)) (am.drop (j + 1)) ∧ am.any (Post.outB 1125899906842624) = (am.drop (j + 1)).any (Post.outB 1125899906842624)) := Lib.hid (fun h => by
          refine ⟨?_, ?_, ?_⟩
          · rw [HR.out.1, HDR.out, Post.sum_cons]; omega
          · rw [HR.out.2.1, HDS.out, HDR.out, Post.fitAll_step h]; rfl
          · rw [HR.out.2.2, HDR.out, Post.any_step HO.out]; rfl)
        rcases (by omega : z < 0 ∨ z = 0 ∨ 0 < z) with hs | hs | hs
        · have hg : ¬ 0 < z := by omega
          cases bl
          · have HN := Lib.hid (HNO.out (by rw [HF.out]; simp [hs]))
            go_wp2_with fail
            refine (rBelow_any k k1 k5 _).mono ?_
            rintro e w1 ⟨g, hg1, rfl, hgc, hb1⟩
            have hgj := hgc j hlt
            rw [HBL.out] at hgj
            clear hgc
            go_wp2
            go_ret
            exact ⟨ret_bool HN.out.symm, hbw.trans (hb1.mono hbw.size)⟩
          · have HY := Lib.hid (HYES.out (by rw [HF.out]; simp; omega))
            go_wp2_with fail
            refine (rBelow_any k k1 k5 _).mono ?_
            rintro e w1 ⟨g, hg1, rfl, hgc, hb1⟩
            have hgj := hgc j hlt
            rw [HBL.out] at hgj
            have hc1 := (bcell hb1).1
            clear hgc
            have hb2 := hbw.trans (hb1.mono hbw.size)
            go_wp2
            go_roundw
            case rel => exact ⟨j + 1, x + z, by omega, by go_num, by go_num, by omega, by omega, hb2, HY.out⟩
            case measure => simp [intOf]; omega
        · subst hs
          have HY := Lib.hid (HYES.out (by rw [HF.out]; simp))
          go_wp2
          go_roundw
          case rel => exact ⟨j + 1, x + 0, by omega, by go_num, by go_num, by omega, by omega, hbw, HY.out⟩
          case measure => simp [intOf]; omega
        · have hg : ¬ z < 0 := by omega
          cases ab
          · have HN := Lib.hid (HNO.out (by rw [HF.out]; simp [hs]))
            go_wp2_with fail
            refine (rAbove_any k k1 k5 _).mono ?_
            rintro e w1 ⟨g, hg1, rfl, hgc, hb1⟩
            have hgj := hgc j hlt
            rw [HAB.out] at hgj
            clear hgc
            go_wp2
            go_ret
            exact ⟨ret_bool HN.out.symm, hbw.trans (hb1.mono hbw.size)⟩
          · have HY := Lib.hid (HYES.out (by rw [HF.out]; simp; omega))
            go_wp2_with fail
            refine (rAbove_any k k1 k5 _).mono ?_
            rintro e w1 ⟨g, hg1, rfl, hgc, hb1⟩
            have hgj := hgc j hlt
            rw [HAB.out] at hgj
            have hc1 := (bcell hb1).1
            clear hgc
            have hb2 := hbw.trans (hb1.mono hbw.size)
            go_wp2
            go_roundw
            case rel => exact ⟨j + 1, x + z, by omega, by go_num, by go_num, by omega, by omega, hb2, HY.out⟩
            case measure => simp [intOf]; omega
    · obtain rfl : j = 6 := by omega
      have hfin : Post.cols k am = (decide (x = 0) && !(decide (k = 5) && decide (am.getD 0 0 ≠ 0) && decide (am.getD 5 0 ≠ 0))) := by
        rw [HC.out, HR.out.1, HR.out.2.1, HR.out.2.2, List.drop_of_length_le (l := am) (by have := HL.out; omega), List.drop_of_length_le (l := Post.signs k) (by have := HSL.out; omega)]
        simp [Post.sum, Post.fitAll]
      have h0 : wr.cell? ⟨b, off, none⟩ = some (.int .i64 (am.getD 0 0)) := by rw [HCW.out b _ hb]; exact HZ.out 0 (by omega)
      have h5 : wr.cell? ⟨b, off + 5, none⟩ = some (.int .i64 (am.getD 5 0)) := by rw [HCW.out b _ hb]; exact HZ.out 5 (by omega)
      obtain ⟨q, hq⟩ : ∃ q, (k != 5) = q := ⟨_, rfl⟩
      rw [show decide (k = 5) = !q from by rw [← hq]; simp [bne]; rfl] at hfin
      generalize am.getD 0 0 = z0 at *
      generalize am.getD 5 0 = z5 at *
      have HFIN := Lib.hid hfin
      clear hfin HC HR HT HZ
      cases q
      all_goals
        go_wp2
      all_goals
        go_ret
        refine ⟨ret_bool ?_, hbw⟩
        rw [HFIN.out, Bool.eq_iff_iff]
        simp_all
        try omega

end Go.Proofs.YtbmphlpmipkpcaaGreat
end

section
set_option linter.unusedVariables false
set_option linter.unusedSimpArgs false
namespace Go.Proofs.YtbmphlpmipkpcaaGreat
open Go.ChangeShapes Go.WideShapes Go.ChangeAt Go.RowKit Go.Deep

structure Pst where
  d : Int
  t : Int
  s : Int
  k : Int
  a0 : Int
  a1 : Int
  a2 : Int
  a3 : Int
  a4 : Int
  a5 : Int

def Pst.cells (p : Pst) : List Value := [.int .i64 p.d, .int .u64 p.t, .int .i64 p.s, .int .i64 p.k, .int .i64 p.a0, .int .i64 p.a1, .int .i64 p.a2, .int .i64 p.a3, .int .i64 p.a4, .int .i64 p.a5]
def Pst.am (p : Pst) : List Int := [p.a0, p.a1, p.a2, p.a3, p.a4, p.a5]
def Pst.may (p : Pst) : Bool := Post.may p.d p.t p.s p.k p.am
def Pst.wf (p : Pst) : Prop := (Lit.int .i64 p.d).wf = true ∧ (Lit.int .u64 p.t).wf = true ∧ (Lit.int .i64 p.s).wf = true ∧ (Lit.int .i64 p.k).wf = true ∧ (Lit.int .i64 p.a0).wf = true ∧ (Lit.int .i64 p.a1).wf = true ∧ (Lit.int .i64 p.a2).wf = true ∧ (Lit.int .i64 p.a3).wf = true ∧ (Lit.int .i64 p.a4).wf = true ∧ (Lit.int .i64 p.a5).wf = true

/-- ten cells in a row at a place hold a posting -/
def PAt (w : World) (b o : Nat) (x : Pst) : Prop :=
  w.cell? ⟨b, o, none⟩ = some (.int .i64 x.d) ∧ w.cell? ⟨b, o + 1, none⟩ = some (.int .u64 x.t) ∧ w.cell? ⟨b, o + 2, none⟩ = some (.int .i64 x.s) ∧ w.cell? ⟨b, o + 3, none⟩ = some (.int .i64 x.k) ∧
  w.cell? ⟨b, o + 4, none⟩ = some (.int .i64 x.a0) ∧ w.cell? ⟨b, o + 5, none⟩ = some (.int .i64 x.a1) ∧ w.cell? ⟨b, o + 6, none⟩ = some (.int .i64 x.a2) ∧ w.cell? ⟨b, o + 7, none⟩ = some (.int .i64 x.a3) ∧
  w.cell? ⟨b, o + 8, none⟩ = some (.int .i64 x.a4) ∧ w.cell? ⟨b, o + 9, none⟩ = some (.int .i64 x.a5)

/-- the value is a slice of the postings l -/
def PS (w : World) (v : Value) (l : List Pst) : Prop :=
  ∃ (p : Option Addr) (cap : Nat), v = .slice p l.length cap ∧ l.length ≤ cap ∧ cap ≤ maxLen ∧ (∀ x ∈ l, x.wf) ∧
    (l ≠ [] → ∃ b o, p = some ⟨b, o, none⟩ ∧ b < w.heap.size ∧ ∀ i x, l[i]? = some x → PAt w b (o + i * 10) x)

theorem PAt.of_cells {w w' : World} {b o : Nat} {x : Pst} (h : PAt w b o x) (hk : ∀ j, w'.cell? ⟨b, j, none⟩ = w.cell? ⟨b, j, none⟩) : PAt w' b o x := by
  unfold PAt; simp only [hk]; exact h
theorem PS.below {w w' : World} {v : Value} {l : List Pst} (h : PS w v l) (hb : Below w.heap.size w w') : PS w' v l := by
  obtain ⟨p, cap, h1, h2, h3, h4, h5⟩ := h
  refine ⟨p, cap, h1, h2, h3, h4, fun hl => ?_⟩
  obtain ⟨b, o, e, hlt, hc⟩ := h5 hl
  exact ⟨b, o, e, Nat.lt_of_lt_of_le hlt hb.size, fun i x hx => (hc i x hx).of_cells fun j => hb.cell (p := ⟨b, j, none⟩) hlt⟩

theorem postCells : Tryz.prog.cellsOf 30 = 10 := by kernel_rfl

section
variable {H : Type} {enc : TypeId × Value → H} {W : World} {base : Nat} {spare : Nat → Bool} {held : Bool}
theorem cell_block {w : World} {a : Addr} {v : Value} (h : w.cell? a = some v) : a.block < w.heap.size ∧ a.spot = none := by
  unfold World.cell? at h
  split at h
  · rename_i c e f hh
    refine ⟨?_, ?_⟩
    · rcases Nat.lt_or_ge a.block w.heap.size with h1 | h1
      · exact h1
      · rw [Array.getElem?_eq_none h1] at hh; cases hh
    · split at h
      · cases h
      · rename_i hn; cases hs : a.spot with
        | none => rfl
        | some z => simp [hs] at hn
  · cases h
theorem wide_cells {w : World} {a : Addr} {cs : List Value} {n : Nat} (hn : cs.length = n) (h : ∀ j, j < n → w.cell? (a.add j) = cs[j]?) (h0 : 0 < n) :
    ∃ b o, a = ⟨b, o, none⟩ ∧ b < w.heap.size ∧ ∀ j, j < n → w.cell? ⟨b, o + j, none⟩ = cs[j]? := by
  have e0 := h 0 h0
  rw [List.getElem?_eq_getElem (by omega)] at e0
  have hb := cell_block e0
  obtain ⟨b, o, s⟩ := a
  obtain ⟨h1, h2⟩ := hb
  have h2' : s = none := by simpa [Addr.add] using h2
  subst h2'
  refine ⟨b, o, rfl, by simpa [Addr.add] using h1, fun j hj => ?_⟩
  have := h j hj
  rw [Go.WideShapes.add_plain] at this
  exact this

set_option maxRecDepth 10000 in
theorem open_post {n : Nat} {cs : List Value} {x : DataW H × List MemPlace} (h : DataW.trod enc Tryz.prog W base spare held n 30 cs = some x) : ∃ p : Pst, cs = p.cells ∧ p.wf := by
  obtain ⟨xs, m, _, hx, hl, hxl, hf⟩ := DataW.trod_struct Tryz.underlying30 h
  rw [postCells] at hl
  match cs, hl with
  | [c0, c1, c2, c3, c4, c5, c6, c7, c8, c9], _ =>
    have g : ∀ i, i < 10 → ∃ y, xs[i]? = some y := fun i hi => ⟨_, List.getElem?_eq_getElem (by simp at hxl; omega)⟩
    obtain ⟨y0, e0⟩ := g 0 (by omega)
    obtain ⟨y1, e1⟩ := g 1 (by omega)
    obtain ⟨y2, e2⟩ := g 2 (by omega)
    obtain ⟨y3, e3⟩ := g 3 (by omega)
    obtain ⟨y4, e4⟩ := g 4 (by omega)
    obtain ⟨y5, e5⟩ := g 5 (by omega)
    obtain ⟨y6, e6⟩ := g 6 (by omega)
    obtain ⟨y7, e7⟩ := g 7 (by omega)
    obtain ⟨y8, e8⟩ := g 8 (by omega)
    obtain ⟨y9, e9⟩ := g 9 (by omega)
    obtain ⟨z0, f0, -, w0⟩ := DataW.trod_int (k := .i64) Tryz.underlying3 ((hf 0 _ rfl).trans e0)
    obtain ⟨z1, f1, -, w1⟩ := DataW.trod_int (k := .u64) Tryz.underlying22 ((hf 1 _ rfl).trans e1)
    obtain ⟨z2, f2, -, w2⟩ := DataW.trod_int (k := .i64) Tryz.underlying3 ((hf 2 _ rfl).trans e2)
    obtain ⟨z3, f3, -, w3⟩ := DataW.trod_int (k := .i64) Tryz.underlying28 ((hf 3 _ rfl).trans e3)
    obtain ⟨z4, f4, -, w4⟩ := DataW.trod_int (k := .i64) Tryz.underlying2 ((hf 4 _ rfl).trans e4)
    obtain ⟨z5, f5, -, w5⟩ := DataW.trod_int (k := .i64) Tryz.underlying2 ((hf 5 _ rfl).trans e5)
    obtain ⟨z6, f6, -, w6⟩ := DataW.trod_int (k := .i64) Tryz.underlying2 ((hf 6 _ rfl).trans e6)
    obtain ⟨z7, f7, -, w7⟩ := DataW.trod_int (k := .i64) Tryz.underlying2 ((hf 7 _ rfl).trans e7)
    obtain ⟨z8, f8, -, w8⟩ := DataW.trod_int (k := .i64) Tryz.underlying2 ((hf 8 _ rfl).trans e8)
    obtain ⟨z9, f9, -, w9⟩ := DataW.trod_int (k := .i64) Tryz.underlying2 ((hf 9 _ rfl).trans e9)
    have c1i : Tryz.prog.cellsOf 3 = 1 := by kernel_rfl
    have c1u : Tryz.prog.cellsOf 22 = 1 := by kernel_rfl
    have c1k : Tryz.prog.cellsOf 28 = 1 := by kernel_rfl
    have c1l : Tryz.prog.cellsOf 2 = 1 := by kernel_rfl
    simp [c1i, c1u, c1k, c1l] at f0 f1 f2 f3 f4 f5 f6 f7 f8 f9
    subst f0 f1 f2 f3 f4 f5 f6 f7 f8 f9
    exact ⟨⟨z0, z1, z2, z3, z4, z5, z6, z7, z8, z9⟩, rfl, w0, w1, w2, w3, w4, w5, w6, w7, w8, w9⟩

set_option maxRecDepth 10000 in
theorem open_posts {v : Value} {r : Reach} {d : DataW H} {ps : List MemPlace} (hv : Value.okWide Tryz.prog W r base 41 v)
    (h : DataW.Trod enc Tryz.prog W 0 (fun _ => true) held 41 v d ps) : ∃ l : List Pst, PS W v l := by
  have hcs : v.cells = #[v] := by
    simp only [Value.okWide, Tryz.underlying41] at hv
    cases v <;> first | rfl | simp [Cell.okWide, Cell.ok] at hv
  obtain ⟨fuel, hf⟩ := h
  rw [hcs] at hf
  rcases open_slice Tryz.underlying41 hf with ⟨h0, _⟩ | ⟨a, len, cap, m, n, D, Pl, h0, hb, hl, hm, hmm, hx, hi⟩
  · refine ⟨[], none, 0, by injection h0, Nat.le_refl _, Nat.zero_le _, fun x hx => absurd hx (by simp), fun h => absurd rfl h⟩
  · simp only [ite_true] at hmm
    subst hmm
    have key : ∀ i, i < len → ∃ p : Pst, p.wf ∧ ∀ j, j < 10 → W.cell? ((a.add (i * 10)).add j) = p.cells[j]? := by
      intro i hil
      obtain ⟨cs', h1, h2⟩ := hi i (by omega)
      obtain ⟨p, rfl, hw⟩ := open_post h2
      rw [postCells] at h1
      obtain ⟨_, _, hcell⟩ := World.cells?_some h1
      exact ⟨p, hw, hcell⟩
    have : Inhabited Pst := ⟨⟨0, 0, 0, 0, 0, 0, 0, 0, 0, 0⟩⟩
    obtain ⟨f, hf⟩ := choose_lt key
    refine ⟨(List.range len).map f, some a, m, by injection h0 with h0 _; rw [h0]; simp, by simpa using hl, hm, ?_, ?_⟩
    · intro x hx
      obtain ⟨i, hi, rfl⟩ := List.mem_map.1 hx
      exact (hf i (List.mem_range.1 hi)).1
    · intro hne
      have hpos : 0 < len := by
        rcases Nat.eq_zero_or_pos len with h | h
        · subst h; simp at hne
        · exact h
      obtain ⟨b, o, he, hlt, _⟩ := wide_cells (n := 10) (cs := (f 0).cells) rfl (hf 0 hpos).2 (by omega)
      rw [Nat.zero_mul] at he
      have ha : a = ⟨b, o, none⟩ := by simpa [Addr.add] using he
      subst ha
      refine ⟨b, o, rfl, hlt, fun i x hx => ?_⟩
      rw [List.getElem?_map] at hx
      rcases Nat.lt_or_ge i len with hil | hil
      · rw [List.getElem?_range hil] at hx
        injection hx with hx
        subst hx
        have hg := (hf i hil).2
        rw [Go.WideShapes.add_plain] at hg
        have hg' : ∀ j, j < 10 → W.cell? ⟨b, o + i * 10 + j, none⟩ = (f i).cells[j]? := fun j hj => by have := hg j hj; rwa [Go.WideShapes.add_plain] at this
        exact ⟨hg' 0 (by omega), hg' 1 (by omega), hg' 2 (by omega), hg' 3 (by omega), hg' 4 (by omega), hg' 5 (by omega), hg' 6 (by omega), hg' 7 (by omega), hg' 8 (by omega), hg' 9 (by omega)⟩
      · rw [List.getElem?_eq_none (by simpa using hil)] at hx
        cases hx

set_option maxRecDepth 10000 in
theorem open_posts' {v : Value} {r : Reach} {d : DataW H} {ps : List MemPlace} (hv : Value.okWide Tryz.prog W r base 41 v)
    (h : DataW.Trod enc Tryz.prog W 0 (fun _ => true) held 41 v d ps) : ∃ (l : List Pst) (p : Option Addr) (n cap : Nat), v = .slice p n cap ∧ n = l.length ∧ PS W (.slice p n cap) l := by
  obtain ⟨l, p, cap, rfl, hl⟩ := open_posts hv h
  exact ⟨l, p, l.length, cap, rfl, rfl, p, cap, rfl, hl⟩
end
end Go.Proofs.YtbmphlpmipkpcaaGreat
end

section
set_option linter.unusedVariables false
namespace Go.Proofs.YtbmphlpmipkpcaaGreat.Post

def zeros6 : List Int := [0, 0, 0, 0, 0, 0]
def addAm (a b : List Int) : List Int := List.zipWith (· + ·) a b
/-- the totals, from some on, of amounts; none: beyond the bound -/
def run : List Int → List (List Int) → Option (List Int)
  | a, [] => some a
  | a, p :: ps => if (addAm a p).any (outB 1152921504606846976) then none else run (addAm a p) ps
/-- an error's number, how many, the totals -/
structure Tot where
  e : Int
  m : Int
  x : List Int
def sums (l : List Pst) : Tot :=
  if l.any (fun p => !p.may) then ⟨2, 0, zeros6⟩
  else match run zeros6 (l.map Pst.am) with
    | none => ⟨14, 0, zeros6⟩
    | some a => ⟨0, l.length, a⟩

theorem addAm_length {a b : List Int} (ha : a.length = 6) (hb : b.length = 6) : (addAm a b).length = 6 := by simp [addAm, ha, hb]
theorem six_of {a : List Int} (h : a.length = 6) : ∃ x0 x1 x2 x3 x4 x5, a = [x0, x1, x2, x3, x4, x5] := by
  match a, h with
  | [x0, x1, x2, x3, x4, x5], _ => exact ⟨x0, x1, x2, x3, x4, x5, rfl⟩
theorem sum_add {a b : List Int} (ha : a.length = 6) (hb : b.length = 6) : sum (addAm a b) = sum a + sum b := by
  obtain ⟨x0, x1, x2, x3, x4, x5, rfl⟩ := six_of ha
  obtain ⟨y0, y1, y2, y3, y4, y5, rfl⟩ := six_of hb
  simp [addAm, sum]; omega
/-- what holds of amounts that were gone through: six, within the bound, of sum 0 -/
def Fine (a : List Int) : Prop := a.length = 6 ∧ a.any (outB 1152921504606846976) = false ∧ sum a = 0
theorem fine_zeros : Fine zeros6 := by refine ⟨rfl, by decide, by decide⟩
theorem run_fine {a b : List Int} (ha : Fine a) {l : List (List Int)} (hl : ∀ p ∈ l, p.length = 6 ∧ sum p = 0) (h : run a l = some b) : Fine b := by
  induction l generalizing a with
  | nil => unfold run at h; injection h with h; exact h ▸ ha
  | cons p ps ih =>
    unfold run at h
    split at h
    · cases h
    · rename_i hn
      have hp := hl p (by simp)
      exact ih ⟨addAm_length ha.1 hp.1, by simpa using hn, by rw [sum_add ha.1 hp.1, ha.2.2, hp.2]; rfl⟩ (fun q hq => hl q (by simp [hq])) h
theorem may_sum {p : Pst} (h : p.may = true) : sum p.am = 0 := by
  unfold Pst.may may cols at h
  simp only [Bool.and_eq_true, decide_eq_true_eq] at h
  exact h.1.1.1.1.1.2.1.2
theorem may_bound {p : Pst} (h : p.may = true) : p.am.any (outB 1125899906842624) = false := by
  unfold Pst.may may cols at h
  simp only [Bool.and_eq_true] at h
  have := h.1.1.1.1.1.2.1.1.1
  simpa using this
theorem sums_fine (l : List Pst) : Fine (sums l).x := by
  unfold sums
  split
  · exact fine_zeros
  · rename_i hn
    split
    · exact fine_zeros
    · rename_i a ha
      refine run_fine fine_zeros ?_ ha
      intro p hp
      obtain ⟨q, hq, rfl⟩ := List.mem_map.1 hp
      refine ⟨rfl, may_sum ?_⟩
      simp only [Bool.not_eq_true, List.any_eq_false] at hn
      simpa using hn q hq
theorem sums_not {l : List Pst} (h : l.any (fun p => !p.may) = true) : sums l = ⟨2, 0, zeros6⟩ := by unfold sums; rw [if_pos h]
theorem sums_far {l : List Pst} (h : l.any (fun p => !p.may) = false) (h' : run zeros6 (l.map Pst.am) = none) : sums l = ⟨14, 0, zeros6⟩ := by unfold sums; rw [if_neg (by simp [h]), h']
theorem sums_are {l : List Pst} {a : List Int} (h : l.any (fun p => !p.may) = false) (h' : run zeros6 (l.map Pst.am) = some a) : sums l = ⟨0, l.length, a⟩ := by unfold sums; rw [if_neg (by simp [h]), h']
theorem run_out {a p : List Int} {ps : List (List Int)} (h : (addAm a p).any (outB 1152921504606846976) = true) : run a (p :: ps) = none := by unfold run; rw [if_pos h]
theorem run_on {a p : List Int} {ps : List (List Int)} (h : (addAm a p).any (outB 1152921504606846976) = false) : run a (p :: ps) = run (addAm a p) ps := by
  show (if _ then none else _) = _
  rw [if_neg (by simp [h])]
/-- where the first j are added -/
def part (j : Nat) (a b : List Int) : List Int := (addAm a b).take j ++ a.drop j
theorem part_zero (a b : List Int) : part 0 a b = a := by simp [part]
theorem part_six {a b : List Int} (ha : a.length = 6) (hb : b.length = 6) : part 6 a b = addAm a b := by
  unfold part
  rw [List.take_of_length_le (by rw [addAm_length ha hb]; omega), List.drop_of_length_le (by omega), List.append_nil]
theorem part_length {a b : List Int} (ha : a.length = 6) (hb : b.length = 6) (j : Nat) (hj : j ≤ 6) : (part j a b).length = 6 := by
  unfold part; rw [List.length_append, List.length_take, List.length_drop, addAm_length ha hb]; omega
theorem part_at {a b : List Int} (ha : a.length = 6) (hb : b.length = 6) {j : Nat} (hj : j < 6) : (part j a b).getD j 0 = a.getD j 0 := by
  unfold part
  have : ((addAm a b).take j).length = j := by rw [List.length_take, addAm_length ha hb]; omega
  simp only [List.getD_eq_getElem?_getD]
  rw [List.getElem?_append_right (by omega), this, List.getElem?_drop]
  simp
theorem part_set {a b : List Int} (ha : a.length = 6) (hb : b.length = 6) {j : Nat} (hj : j < 6) : (part j a b).set j (a.getD j 0 + b.getD j 0) = part (j + 1) a b := by
  obtain ⟨x0, x1, x2, x3, x4, x5, rfl⟩ := six_of ha
  obtain ⟨y0, y1, y2, y3, y4, y5, rfl⟩ := six_of hb
  rcases (by omega : j = 0 ∨ j = 1 ∨ j = 2 ∨ j = 3 ∨ j = 4 ∨ j = 5) with rfl | rfl | rfl | rfl | rfl | rfl <;> rfl
theorem amRow_put (cs : List Int) (j : Nat) (v : Int) : (amRow cs).setIfInBounds j (.int .i64 v) = amRow (cs.set j v) := by
  unfold amRow; simp [List.map_set]
theorem any_getD {bd : Int} {l : List Int} (h : l.any (outB bd) = false) {i : Nat} (hi : i < l.length) : -bd ≤ l.getD i 0 ∧ l.getD i 0 ≤ bd := by
  refine any_in h ?_
  rw [List.getD_eq_getElem?_getD, List.getElem?_eq_getElem hi]
  exact List.getElem_mem hi
end Go.Proofs.YtbmphlpmipkpcaaGreat.Post
end

section
set_option linter.unusedVariables false
set_option linter.unusedSimpArgs false
namespace Go.Proofs.YtbmphlpmipkpcaaGreat
open Go.ChangeShapes Go.WideShapes Go.ChangeAt Go.RowKit

theorem i64_bd {n : Int} (h : (Lit.int .i64 n).wf = true) : -9223372036854775808 ≤ n ∧ n ≤ 9223372036854775807 := by
  simpa [Lit.wf, IntKind.min, IntKind.max, IntKind.signed, IntKind.bits] using h
theorem u64_bd {n : Int} (h : (Lit.int .u64 n).wf = true) : 0 ≤ n ∧ n ≤ 18446744073709551615 := by
  simpa [Lit.wf, IntKind.min, IntKind.max, IntKind.signed, IntKind.bits] using h
theorem balloc {a w : World} (h : Below a.heap.size a w) (o : Obj) : Below a.heap.size a (w.alloc o) := h.alloc h.size o
theorem below_call {a w w' : World} (h : Below a.heap.size a w) (hx : Below w.heap.size w w') : Below a.heap.size a w' := h.trans (hx.mono h.size)

end Go.Proofs.YtbmphlpmipkpcaaGreat
end
