/- Contract: what a history tells (ticket.told). Contract: may a ticket be (ticket.May). A region that draws its order, whose loads read cells that its own last stores write: the loads are taken first; what the loads read is held till the first store. And: contracts of Clone for a ticket's lists. -/
import Derived.Test.YtadabjkhiaidcaaDsl11
import Derived.Deep.DeepCutAuto
import Derived.Deep.CutBlock
import Derived.Test.YtadabjkhiaidcaaDsl3
import Derived.Deep.RegionHeld

section
set_option linter.unusedVariables false
set_option linter.unusedSimpArgs false
namespace Go.Proofs.Ytadabjkhiaidcaa
open Go.RowKit

def stC (z : Int) : List Value := [.int .i64 z]
theorem row_after {w : World} {g : Nat} {o o' : Obj} (h : w.heap[g]? = some o) : (w.alloc o').heap[g]? = some o := (((Below.refl w.heap.size w).alloc (Nat.le_refl _) o').block g (block_lt h)).trans h
theorem encL_st (l : List Int) : encL stC l = l.map (Value.int .i64) := by
  induction l with
  | nil => rfl
  | cons x l ih => rw [encL, List.flatMap_cons, ← encL, ih]; rfl
theorem elemSt : Elem Try.prog stC 1 8 72 34 := Elem.of Try.underlying72 (by kernel_rfl) (by decide) (by decide) (fun _ => rfl) (fun x u hu => by rcases List.mem_singleton.1 hu with rfl; rfl)
theorem mk_status : ∀ (m : Nat), m ≤ 100000 → ∀ W : World, (Instr.makeSlice 72 (.int .i64 (m : Int)) (.int .i64 (m : Int))).run Try.prog W = .ok (.slice (some ⟨W.heap.size, 0, none⟩) m m) (W.alloc (.cells (rowS (List.replicate m 0)) 34 (0, 0))) := by
  have h1 : ((Try.prog.info? 34).map fun i => (i.size, i.bytes)) = some (1, 8) := by kernel_rfl
  have h2 : ((Try.prog.info? 34).bind fun i => i.zero) = some (.int .i64 0) := by kernel_rfl
  cases hi : Try.prog.info? 34 with
  | none => rw [hi] at h1; cases h1
  | some i =>
    rw [hi] at h1 h2
    have hz : i.zero = some (.int .i64 0) := h2
    have h1' : i.size = 1 ∧ i.bytes = 8 := by simpa using h1
    intro m hm W
    have := run_makeSlice (w := W) (P := Try.prog) 72 34 i (.int .i64 0) Try.underlying72 hi hz .i64 .i64 (m : Int) (m : Int) (by omega) (Int.le_refl _) (by rw [h1'.1]; simp; omega) (by rw [h1'.2]; omega) (by omega)
    rw [h1'.1] at this
    have hc : madeCells (Value.int IntKind.i64 0).cells (m * 1) = rowS (List.replicate m 0) := by
      apply Array.toList_inj.1
      rw [show (Value.int IntKind.i64 0).cells = #[Value.int IntKind.i64 0] from rfl, toList_madeCells_one, Nat.mul_one]
      simp [rowS]
    have hc' : madeCells (Value.int IntKind.i64 0).cells m = rowS (List.replicate m 0) := by rw [← hc, Nat.mul_one]
    simpa [hc, hc'] using this
/-- an own slice of statuses that is not empty, as a row -/
theorem own_status {w : World} {base : Nat} {v : Value} {n : Nat} {l : List Int} (h : w.ownsRow base 34 1 v n (l.map (Value.int .i64))) (h0 : 0 < n) :
    ∃ tb c2 sp, v = .slice (some ⟨tb, 0, none⟩) n c2 ∧ base ≤ tb ∧ w.heap[tb]? = some (.cells (l.map (Value.int .i64) ++ sp).toArray 34 (0, 0)) ∧ n ≤ c2 ∧ c2 ≤ maxLen ∧ n + sp.length = c2 ∧ l.length = n := by
  obtain ⟨hlen, hor⟩ := h
  rw [List.length_map, Nat.mul_one] at hlen
  rcases hor with ⟨rfl, hz⟩ | ⟨g, cap, cur, rfl, hg, hh, hnc, hcm, hcs, htk⟩
  · omega
  · refine ⟨g, cap, cur.toList.drop n, rfl, hg, ?_, hnc, hcm, ?_, hlen⟩
    · rw [hh]
      have : cur = (l.map (Value.int .i64) ++ cur.toList.drop n).toArray := by
        apply Array.toList_inj.1
        rw [List.toList_toArray]
        conv => lhs; rw [← List.take_append_drop n cur.toList]
        rw [← htk, Nat.mul_one]
      rw [← this]
    · rw [List.length_drop, Array.length_toList, hcs]; omega
theorem own_status_back {w : World} {base tb n c2 : Nat} {l : List Int} {sp : List Value} (hb : base ≤ tb) (h : w.heap[tb]? = some (.cells (l.map (Value.int .i64) ++ sp).toArray 34 (0, 0))) (h1 : n ≤ c2 ∧ c2 ≤ maxLen) (h2 : n + sp.length = c2) (hl : l.length = n) :
    w.ownsRow base 34 1 (.slice (some ⟨tb, 0, none⟩) n c2) n (l.map (Value.int .i64)) := by
  refine ⟨by rw [List.length_map, hl, Nat.mul_one], .inr ⟨tb, c2, _, rfl, hb, h, h1.1, h1.2, ?_, ?_⟩⟩
  · simp; omega
  · rw [List.toList_toArray, Nat.mul_one, List.take_append_of_le_length (by rw [List.length_map]; omega), List.take_of_length_le (by rw [List.length_map]; omega)]

set_option maxRecDepth 4000 in
set_option maxHeartbeats 400000 in
theorem cloneSt_any (v : Value) (l : List Int) (hl : l.length ≤ 1073741824) (w : World) (hv : LS stC 1 w v l) :
    Calls Try.prog 102 #[v] w fun e w' => ∃ v', e = .returned v' ∧ w'.ownsRow w.heap.size 34 1 v' l.length (encL stC l) ∧ Below w.heap.size w w' := by
  have HV := Lib.hid hv
  obtain ⟨p, cap, rfl, h1, h2, h3⟩ := hv
  have hq := fun (W : World) => (Lib.run_eql_slice_nil (P := Try.prog) W _ _ p l.length cap 0 0 Try.underlying72)
  have H3 := Lib.hid h3; clear h3
  cases p with
  | none =>
    have hl0 : l = [] := by
      by_cases hl : l = []
      · exact hl
      · obtain ⟨b, o, h, _⟩ := H3.out hl; cases h
    subst hl0
    simp only [List.length_nil] at *
    go_enter Try.func102, Try.ntmps102
    go_wp2
    go_ret
    exact ⟨_, rfl, World.ownsRow_nil _ _ _ _, Below.refl _ _⟩
  | some ad =>
    generalize hn : l.length = n at *
    have HN := Lib.hid hn; clear hn
    go_enter Try.func102, Try.ntmps102
    go_wp2_with (at_builtin; refine wpList_append_recs elemSt rfl _ _ rfl w.heap.size _ 0 [] rfl (recs_of_row (new_rowW _ _ _ rfl) (Nat.le_refl _)) _ l rfl (HV.out.alloc _) (by have := HN.out; omega) (by simp) ?_; intro v1 w1 hown1 hg1 hn1 hat1)
    have HO : Hid (w1.ownsRow w.heap.size 34 1 v1 n (encL stC l)) := Lib.hid (by have := hown1; rw [Nat.zero_add, HN.out] at this; exact this)
    have HB : Hid (Below w.heap.size w w1) := Lib.hid (((Below.refl w.heap.size w).alloc (Nat.le_refl _) _).grown hg1 (by simp) (fun b hb => by injection hb with hb; simp at hb; omega))
    clear hown1 hg1 hn1 hat1
    go_wp2
    go_ret
    exact ⟨_, rfl, HO.out, HB.out⟩

/-- the rows of a walk over a history, as far as it went -/
def toldAt (u : Int) (n : Nat) (iss : Int) (hs : List Evt) (k : Nat) (G : Bool) (s : Tkt.Told) : Prop :=
  (G = true → Tkt.toldE u n iss (hs.take k) = some s) ∧ (G = false → Tkt.toldE u n iss (hs.take k) = none) ∧ 0 ≤ s.at_
theorem toldAt_step {u : Int} {n : Nat} {iss : Int} {hs : List Evt} {k : Nat} {G : Bool} {s : Tkt.Told} {x : Evt} (h : toldAt u n iss hs k G s) (hx : hs[k]? = some x) :
    toldAt u n iss hs (k + 1) (G && Tkt.evOk s x) (if Tkt.evOk s x = true then Tkt.evDo u s x else s) := by
  obtain ⟨h1, h2, h3⟩ := h
  have ht : hs.take (k + 1) = hs.take k ++ [x] := by rw [List.take_add_one, hx]; rfl
  have hp : 0 ≤ (if Tkt.evOk s x = true then Tkt.evDo u s x else s).at_ := by
    split
    · rename_i hq
      unfold Tkt.evOk at hq
      simp only [Bool.and_eq_true, decide_eq_true_eq] at hq
      show 0 ≤ x.dy
      omega
    · exact h3
  refine ⟨fun hg => ?_, fun hg => ?_, hp⟩
  · rw [Bool.and_eq_true] at hg
    rw [ht, Tkt.toldE_snoc, h1 hg.1, if_pos hg.2]
    show (if Tkt.evOk s x = true then _ else _) = _
    rw [if_pos hg.2]
  · rw [ht, Tkt.toldE_snoc]
    cases G with
    | false => rw [h2 rfl]; rfl
    | true =>
      rw [h1 rfl]
      show (if Tkt.evOk s x = true then _ else _) = _
      rw [Bool.true_and] at hg
      rw [if_neg (by rw [hg]; simp)]
theorem toldAt_end {u : Int} {t : Tk} {G Q : Bool} {s : Tkt.Told} (h : toldAt u t.cs.length t.iss t.hs t.hs.length G s) (hl : s.now.length = t.cs.length)
    (hQ : Q = true ↔ G = true ∧ ∀ (j : Nat) (x : Cpn), j < t.cs.length → t.cs[j]? = some x → x.st = s.now.getD j 0) : Q = Tkt.histB u t ∧ (Q = true → s.thn = Tkt.thenL u t) := by
  obtain ⟨h1, h2, h3⟩ := h
  rw [List.take_length] at h1 h2
  unfold Tkt.histB Tkt.thenL
  cases G with
  | false => 
    rw [h2 rfl]
    have : Q = false := by
      cases hq : Q
      · rfl
      · exact absurd (hQ.1 hq).1 (by simp)
    exact ⟨this, fun h => by rw [this] at h; cases h⟩
  | true =>
    rw [h1 rfl]
    refine ⟨?_, fun _ => rfl⟩
    rw [Bool.eq_iff_iff, hQ, decide_eq_true_iff]
    constructor
    · rintro ⟨-, h⟩
      apply List.ext_getElem?
      intro j
      rw [List.getElem?_map]
      rcases Nat.lt_or_ge j t.cs.length with hj | hj
      · rw [List.getElem?_eq_getElem hj, List.getElem?_eq_getElem (by omega)]
        have := h j _ hj (List.getElem?_eq_getElem hj)
        rw [List.getD_eq_getElem?_getD, List.getElem?_eq_getElem (by omega)] at this
        simp only [Option.getD_some] at this
        simp [this]
      · rw [List.getElem?_eq_none hj, List.getElem?_eq_none (by omega)]; rfl
    · refine fun h => ⟨rfl, fun j x hj hx => ?_⟩
      rw [h, List.getD_eq_getElem?_getD, List.getElem?_map, hx]; rfl

set_option maxRecDepth 4000 in
set_option maxHeartbeats 4000000 in
theorem told_any (t : Tk) (c x h : Sl) (u : Int) (w : World) (ts : TS w t c x h) (h1 : 1 ≤ t.cs.length) (h2 : t.cs.length ≤ 100000) (hiss : 0 ≤ t.iss) :
    Calls Try.prog 87 #[.agg #[.int .u64 t.num, .string t.loc, .int .i64 t.iss, .slice c.p c.n c.c, .slice x.p x.n x.c, .int .u64 t.prev, .int .u64 t.org, .int .u64 t.fst, .int .i64 t.vou, .int .i64 t.posts, .slice h.p h.n h.c], .int .i64 u] w fun e w' => (∃ v thn, e = .returned (.tuple #[v, .bool (Tkt.histB u t)]) ∧ w'.ownsRow w.heap.size 34 1 v t.cs.length (List.map (Value.int .i64) thn) ∧ (Tkt.histB u t = true → thn = Tkt.thenL u t)) ∧ Below w.heap.size w w' := by
  have HCS := Lib.hid ts.cs; have HHS := Lib.hid ts.hs; have HWF := Lib.hid ts.wf
  have hn1 := ts.cs.length.1
  have hm1 := ts.hs.length.1
  have hm2 := ts.hs.length.2
  unfold maxLen at hm2
  obtain ⟨c0, n, c3⟩ := c
  obtain ⟨q0, m, q3⟩ := h
  simp only at *
  generalize hcl : t.cs.length = cl at *
  subst hn1
  have HCL := Lib.hid hcl
  generalize hhl : t.hs.length = hl at *
  subst hm1
  have HHL := Lib.hid hhl
  have hmk := mk_status n h2
  have hb0 := ((Below.refl w.heap.size w).alloc (Nat.le_refl _) (.cells #[.int .u64 t.num, .string t.loc, .int .i64 t.iss, .slice c0 n c3, .slice x.p x.n x.c, .int .u64 t.prev, .int .u64 t.org, .int .u64 t.fst, .int .i64 t.vou, .int .i64 t.posts, .slice q0 m q3] 45 (0, 0))).alloc (by simp) (.cells #[.int .i64 u] 3 (0, 0))
  have hb1 := (hb0.alloc hb0.size (.cells (rowS (List.replicate n 0)) 34 (0, 0)))
  have hb2 := hb1.alloc hb1.size (.cells #[.slice (some ⟨w.heap.size + 1 + 1, 0, none⟩) n n] 72 (0, 0))
  have hrg : ((((w.alloc (.cells #[.int .u64 t.num, .string t.loc, .int .i64 t.iss, .slice c0 n c3, .slice x.p x.n x.c, .int .u64 t.prev, .int .u64 t.org, .int .u64 t.fst, .int .i64 t.vou, .int .i64 t.posts, .slice q0 m q3] 45 (0, 0))).alloc (.cells #[.int .i64 u] 3 (0, 0))).alloc (.cells (rowS (List.replicate n 0)) 34 (0, 0))).alloc (.cells #[.slice (some ⟨w.heap.size + 1 + 1, 0, none⟩) n n] 72 (0, 0))).heap[w.heap.size]? = some (.cells #[.int .u64 t.num, .string t.loc, .int .i64 t.iss, .slice c0 n c3, .slice x.p x.n x.c, .int .u64 t.prev, .int .u64 t.org, .int .u64 t.fst, .int .i64 t.vou, .int .i64 t.posts, .slice q0 m q3] 45 (0, 0)) := row_after (row_after (row_after (new_rowW _ _ _ rfl)))
  have hru : ((((w.alloc (.cells #[.int .u64 t.num, .string t.loc, .int .i64 t.iss, .slice c0 n c3, .slice x.p x.n x.c, .int .u64 t.prev, .int .u64 t.org, .int .u64 t.fst, .int .i64 t.vou, .int .i64 t.posts, .slice q0 m q3] 45 (0, 0))).alloc (.cells #[.int .i64 u] 3 (0, 0))).alloc (.cells (rowS (List.replicate n 0)) 34 (0, 0))).alloc (.cells #[.slice (some ⟨w.heap.size + 1 + 1, 0, none⟩) n n] 72 (0, 0))).heap[w.heap.size + 1]? = some (.cells #[.int .i64 u] 3 (0, 0)) := row_after (row_after (new_rowW _ _ _ (by simp)))
  have hrn : ((((w.alloc (.cells #[.int .u64 t.num, .string t.loc, .int .i64 t.iss, .slice c0 n c3, .slice x.p x.n x.c, .int .u64 t.prev, .int .u64 t.org, .int .u64 t.fst, .int .i64 t.vou, .int .i64 t.posts, .slice q0 m q3] 45 (0, 0))).alloc (.cells #[.int .i64 u] 3 (0, 0))).alloc (.cells (rowS (List.replicate n 0)) 34 (0, 0))).alloc (.cells #[.slice (some ⟨w.heap.size + 1 + 1, 0, none⟩) n n] 72 (0, 0))).heap[w.heap.size + 1 + 1]? = some (.cells (rowS (List.replicate n 0)) 34 (0, 0)) := row_after (new_rowW _ _ _ (by simp))
  have hra : ((((w.alloc (.cells #[.int .u64 t.num, .string t.loc, .int .i64 t.iss, .slice c0 n c3, .slice x.p x.n x.c, .int .u64 t.prev, .int .u64 t.org, .int .u64 t.fst, .int .i64 t.vou, .int .i64 t.posts, .slice q0 m q3] 45 (0, 0))).alloc (.cells #[.int .i64 u] 3 (0, 0))).alloc (.cells (rowS (List.replicate n 0)) 34 (0, 0))).alloc (.cells #[.slice (some ⟨w.heap.size + 1 + 1, 0, none⟩) n n] 72 (0, 0))).heap[w.heap.size + 1 + 1 + 1]? = some (.cells #[.slice (some ⟨w.heap.size + 1 + 1, 0, none⟩) n n] 72 (0, 0)) := new_rowW _ _ _ (by simp)
  have HB2 := Lib.hid hb2; have HRG := Lib.hid hrg; have HRU := Lib.hid hru; have HRN := Lib.hid hrn; have HRA := Lib.hid hra
  have HISS := Lib.hid hiss; have H1 := Lib.hid h1
  clear hcl hhl hiss ts hb0 hb1 hb2 hrg hru hrn hra h1
  go_enter Try.func87, Try.ntmps87
  go_wp2_with fail
  generalize ((((w.alloc (.cells #[.int .u64 t.num, .string t.loc, .int .i64 t.iss, .slice c0 n c3, .slice x.p x.n x.c, .int .u64 t.prev, .int .u64 t.org, .int .u64 t.fst, .int .i64 t.vou, .int .i64 t.posts, .slice q0 m q3] 45 (0, 0))).alloc (.cells #[.int .i64 u] 3 (0, 0))).alloc (.cells (rowS (List.replicate n 0)) 34 (0, 0))).alloc (.cells #[.slice (some ⟨w.heap.size + 1 + 1, 0, none⟩) n n] 72 (0, 0))) = wa at *
  generalize han : w.heap.size + 1 + 1 + 1 = an at *
  generalize hnb : w.heap.size + 1 + 1 = nb at *
  generalize hau : w.heap.size + 1 = au at *
  have HAN : Hid (nb < an) := Lib.hid (by omega)
  have HNB : Hid (au < nb) := Lib.hid (by omega)
  have HAU : Hid (w.heap.size < au) := Lib.hid (by omega)
  clear han hnb hau
  clear hmk
  go_loopw [22] (fun i wr => ∃ k : Nat, k ≤ n ∧ i = .int .i64 k ∧ wr.heap[nb]? = some (.cells (rowS (List.replicate k 1 ++ List.replicate (n - k) 0)) 34 (0, 0)) ∧ Only nb wa wr) (fun i _ => n - (intOf i).toNat)
  case atStart => exact ⟨0, Nat.zero_le _, rfl, by rw [HRN.out]; simp, Only.refl _ _⟩
  case round =>
    obtain ⟨k, hk, rfl, hrow, hon⟩ := hrel
    have HON := Lib.hid hon; have HROW := Lib.hid hrow
    clear hon hrow
    have HRAr := Lib.hid ((HON.out.block an (block_lt HRA.out) (by have := HAN.out; omega)).trans HRA.out)
    have ga := fun j => cell_of_row wr an j _ _ _ HRAr.out
    by_cases hlt : k < n
    · have kn : wr.cell? ⟨nb, k, none⟩ = some (.int .i64 0) := cell_of_row _ _ k _ _ _ HROW.out |>.trans (rowS_get (by rw [List.getElem?_append_right (by simp), List.length_replicate, Nat.sub_self, List.getElem?_replicate, if_pos (by omega)]))
      have fn := fun j => frozen_of_row wr nb j _ _ HROW.out
      go_wp2_with fail
      go_roundw
      case rel =>
        refine ⟨k + 1, by omega, by go_num, ?_, HON.out.setCell k _⟩
        rw [heap_setCell_same _ _ _ _ _ _ HROW.out, rowS_set]
        congr 3
        have e1 : n - k = (n - (k + 1)) + 1 := by omega
        rw [e1, List.set_append_right _ _ (by simp), List.length_replicate, Nat.sub_self, List.replicate_succ, List.set_cons_zero, List.replicate_succ', List.append_assoc]
        rfl
      case measure => simp [intOf]; omega
    · obtain rfl : n = k := by omega
      have HROW1 : Hid (wr.heap[nb]? = some (.cells (rowS (List.replicate n 1)) 34 (0, 0))) := Lib.hid (by rw [HROW.out]; simp)
      have HB3 : Hid (Below w.heap.size w wr) := Lib.hid (Only.below HB2.out (by have := HAU.out; have := HNB.out; omega) HB2.out.size HON.out)
      have HRG3 := Lib.hid ((HON.out.block w.heap.size (block_lt HRG.out) (by have := HAU.out; have := HNB.out; omega)).trans HRG.out)
      have HRU3 := Lib.hid ((HON.out.block au (block_lt HRU.out) (by have := HNB.out; omega)).trans HRU.out)
      clear ga hlt HON HROW HRN
      have gg := fun j => cell_of_row wr w.heap.size j _ _ _ HRG3.out
      have hgl := block_lt HRG3.out
      go_upto_region 7 with fail
      go_cut [8, 9] (fun a b wx => ∃ ag aa, a = .pointer (some ⟨ag, 0, none⟩) ∧ b = .pointer (some ⟨aa, 0, none⟩) ∧ wx.heap[ag]? = some (.cells #[.bool true] 4 (0, 0)) ∧ wx.heap[aa]? = some (.cells #[.int .i64 t.iss] 3 (0, 0)) ∧ Below wr.heap.size wr wx ∧ wr.heap.size ≤ ag ∧ wr.heap.size ≤ aa ∧ ag ≠ aa)
      case first =>
        go_region
        all_goals
          go_wp2_with fail
          go_meet
          first
            | exact ⟨wr.heap.size, wr.heap.size + 1, rfl, rfl, row_after (new_rowW _ _ _ rfl), new_rowW _ _ _ (by simp), (((Below.refl _ _).alloc (Nat.le_refl _) _).alloc (by simp) _).drew, Nat.le_refl _, by omega, by omega⟩
            | exact ⟨wr.heap.size + 1, wr.heap.size, rfl, rfl, new_rowW _ _ _ (by simp), row_after (new_rowW _ _ _ rfl), (((Below.refl _ _).alloc (Nat.le_refl _) _).alloc (by simp) _).drew, by omega, Nat.le_refl _, by omega⟩
      case rest =>
        obtain ⟨ag, aa, rfl, rfl, hrg', hraa, hbc, hag, haa, hne⟩ := hcut
        have HRG4 := Lib.hid ((hbc.block _ (block_lt HRG3.out)).trans HRG3.out)
        have HRU4 := Lib.hid ((hbc.block _ (block_lt HRU3.out)).trans HRU3.out)
        have HROW4 := Lib.hid ((hbc.block _ (block_lt HROW1.out)).trans HROW1.out)
        have HRA4 := Lib.hid ((hbc.block _ (block_lt HRAr.out)).trans HRAr.out)
        have HRGG := Lib.hid hrg'; have HRAA := Lib.hid hraa
        have HB4 : Hid (Below w.heap.size w wc) := Lib.hid (HB3.out.trans (hbc.mono HB3.out.size))
        have HAG : Hid (an < ag ∧ an < aa ∧ ag ≠ aa) := Lib.hid (by have := block_lt HRAr.out; omega)
        clear gg hgl hrg' hraa hbc hag haa hne HB3 HRG3 HRU3 HRAr HROW1 HRG HRU HRA HB2
        have ga := fun j => cell_of_row wc an j _ _ _ HRA4.out
        have HLS : Hid (LS stC 1 wc (.slice (some ⟨nb, 0, none⟩) n n) (List.replicate n 1)) := Lib.hid (by
          have := (RowL.of_block (enc := stC) (n := 1) (l := List.replicate n (1 : Int)) HROW4.out (fun _ => rfl) (by simp [rowS]) (by rw [encL_st]; simp [rowS])).slice (fun _ => rfl) (by decide) (cap := n) (by simp) (by unfold maxLen; omega)
          rwa [List.length_replicate] at this)
        go_wp2_with (go_at_call 102; refine (cloneSt_any _ _ (by simp; omega) _ HLS.out).mono ?_; rintro e w4 ⟨v', rfl, hown, hb4⟩; rw [encL_st, List.length_replicate] at hown; obtain ⟨tb, c2, sp, rfl, htb, hrt, hc1, hc2, hsp, hlr⟩ := own_status hown H1.out; have HRG5 := Lib.hid ((hb4.block _ (block_lt HRG4.out)).trans HRG4.out); have gg4 := fun j => cell_of_row w4 w.heap.size j _ _ _ HRG5.out; have hgl4 := block_lt HRG5.out; have HRT := Lib.hid hrt; have HC2 := Lib.hid hc2; have HC1 := Lib.hid hc1; have HSP := Lib.hid hsp; have HB5 := Lib.hid hb4; have HTB := Lib.hid htb; clear hown hrt hsp hb4 hc1 hc2 htb hlr)
        have HT : Hid (Tds (w4.alloc (.cells #[.slice (some ⟨tb, 0, none⟩) n c2] 72 (0, 0))) au nb an ag aa tb w4.heap.size n c2 u t.iss true (List.replicate n 1) (List.replicate n 1) sp) := Lib.hid (by
          have b4 := HB5.out
          exact ⟨row_after ((b4.block _ (block_lt HRU4.out)).trans HRU4.out), row_after ((b4.block _ (block_lt HROW4.out)).trans HROW4.out), row_after ((b4.block _ (block_lt HRA4.out)).trans HRA4.out), row_after ((b4.block _ (block_lt HRGG.out)).trans HRGG.out), row_after ((b4.block _ (block_lt HRAA.out)).trans HRAA.out), row_after HRT.out, new_rowW _ _ _ rfl, HNB.out, HAN.out, ⟨HAG.out.1, HAG.out.2.1⟩, HAG.out.2.2, ⟨Nat.lt_of_lt_of_le (block_lt HRGG.out) HTB.out, Nat.lt_of_lt_of_le (block_lt HRAA.out) HTB.out⟩, block_lt HRT.out, by simp, by simp⟩)
        have HRG6 := Lib.hid (row_after (o' := .cells #[.slice (some ⟨tb, 0, none⟩) n c2] 72 (0, 0)) HRG5.out)
        have HB6 : Hid (Below w.heap.size w (w4.alloc (.cells #[.slice (some ⟨tb, 0, none⟩) n c2] 72 (0, 0)))) := Lib.hid ((HB4.out.trans (HB5.out.mono HB4.out.size)).alloc (Nat.le_trans HB4.out.size HB5.out.size) _)
        clear gg4 ga HLS HROW4 HRA4 HRGG HRAA HB4 HRG4 HRU4 HRG5 HB5 HRT
        have HTBw : Hid (w.heap.size ≤ tb) := Lib.hid (by have := HT.out.o1; have := HT.out.o2; have := HT.out.o3; have := HT.out.o5; have := HAU.out; omega)
        clear HTB
        generalize w4.alloc (.cells #[.slice (some ⟨tb, 0, none⟩) n c2] 72 (0, 0)) = w5 at *
        clear hgl4
        generalize w4.heap.size = ah at *
        clear HAG
        go_loopw [37] (fun i wr => ∃ (k : Nat) (s : Tkt.Told) (G : Bool), k ≤ m ∧ i = .int .i64 k ∧ toldAt u n t.iss t.hs k G s ∧ Tds wr au nb an ag aa tb ah n c2 u s.at_ G s.now s.thn sp ∧ Below au w5 wr) (fun i _ => m - (intOf i).toNat)
        case atStart => exact ⟨0, Tkt.told0 n t.iss, true, Nat.zero_le _, rfl, ⟨fun _ => rfl, fun h => (by cases h), HISS.out⟩, HT.out, Below.refl _ _⟩
        case round =>
          obtain ⟨k, s, G, hk, rfl, hat, htd, hbw⟩ := hrel
          have HAT := Lib.hid hat; have HTD := Lib.hid htd; have HBW := Lib.hid hbw
          have HBA : Hid (Below w.heap.size w wr) := Lib.hid (HB6.out.trans (hbw.mono (Nat.le_of_lt HAU.out)))
          clear hat htd hbw
          by_cases hlt : k < m
          · obtain ⟨e, he⟩ : ∃ e, t.hs[k]? = some e := ⟨_, List.getElem?_eq_getElem (by have := HHL.out; omega)⟩
            obtain ⟨bb, o, rfl, hbl, hr⟩ := (HHS.out.below HBA.out).at he
            have HE := Lib.hid he
            have c0 : wr.cell? ⟨bb, o + k * 4, none⟩ = some (.int .i64 e.dy) := hr 0 _ rfl
            have c1 : wr.cell? ⟨bb, o + k * 4 + 1, none⟩ = some (.int .i64 e.co) := hr 1 _ rfl
            have c2_ : wr.cell? ⟨bb, o + k * 4 + 2, none⟩ = some (.int .i64 e.fr) := hr 2 _ rfl
            have c3_ : wr.cell? ⟨bb, o + k * 4 + 3, none⟩ = some (.int .i64 e.to) := hr 3 _ rfl
            clear he hr
            go_wp2_with fail
            refine (told1_any e s _ au nb an ag aa tb ah n c2 u G sp (HTD.out.below ((Below.refl _ _).alloc (Nat.le_refl _) _)) h2 ⟨HC1.out, HC2.out⟩ (HWF.out.hs e (List.mem_of_getElem? HE.out)) HAT.out.2.2).mono ?_
            rintro e' w6 ⟨rfl, ⟨s', hs', htd'⟩, hb6⟩
            have HSS := Lib.hid hs'; have HTD6 := Lib.hid htd'; have HB7 := Lib.hid hb6
            clear hs' htd' hb6 c0 c1 c2_ c3_
            go_wp2
            go_roundw
            case rel =>
              refine ⟨k + 1, s', _, by omega, by go_num, ?_, HTD6.out, HBW.out.trans ?_⟩
              · rw [HSS.out]; exact toldAt_step HAT.out HE.out
              · exact ((Below.refl _ _).alloc (Nat.le_of_lt (block_lt HTD.out.ru)) _).trans HB7.out
            case measure => simp [intOf]; omega
          · obtain rfl : m = k := by omega
            have HRG7 := Lib.hid ((HBW.out.block _ HAU.out).trans HRG6.out)
            have gg := fun j => cell_of_row wr w.heap.size j _ _ _ HRG7.out
            clear hlt
            go_wp2_with fail
            clear gg
            go_loopw [48] (fun i wx => ∃ (j : Nat) (Q : Bool), j ≤ n ∧ i = .int .i64 j ∧ (Q = true ↔ G = true ∧ ∀ (l : Nat) (y : Cpn), l < j → t.cs[l]? = some y → y.st = s.now.getD l 0) ∧ Tds wx au nb an ag aa tb ah n c2 u s.at_ Q s.now s.thn sp ∧ Below au wr wx) (fun i _ => n - (intOf i).toNat)
            case atStart => exact ⟨0, G, Nat.zero_le _, rfl, ⟨fun h => ⟨h, fun l y h => absurd h (Nat.not_lt_zero _)⟩, fun h => h.1⟩, HTD.out, Below.refl _ _⟩
            case round =>
              obtain ⟨j, Q, hj, rfl, hQ, htx, hbx⟩ := hrel
              have HQ := Lib.hid hQ; have HTX := Lib.hid htx; have HBX := Lib.hid hbx
              have HBA2 : Hid (Below w.heap.size w wr) := Lib.hid (HBA.out.trans (hbx.mono (Nat.le_of_lt HAU.out)))
              clear hQ htx hbx
              by_cases hlt : j < n
              · obtain ⟨y, hy⟩ : ∃ y, t.cs[j]? = some y := ⟨_, List.getElem?_eq_getElem (by have := HCL.out; omega)⟩
                obtain ⟨bb, o, rfl, hbl, hr⟩ := (HCS.out.below HBA2.out).at hy
                have HY := Lib.hid hy
                have c0 : wr.cell? ⟨bb, o + j * 6, none⟩ = some (.int .i64 y.fl) := hr 0 _ rfl
                have c1 : wr.cell? ⟨bb, o + j * 6 + 1, none⟩ = some (.int .i64 y.dy) := hr 1 _ rfl
                have c2_ : wr.cell? ⟨bb, o + j * 6 + 2, none⟩ = some (.int .i64 y.va) := hr 2 _ rfl
                have c3_ : wr.cell? ⟨bb, o + j * 6 + 3, none⟩ = some (.int .i64 y.st) := hr 3 _ rfl
                have c4_ : wr.cell? ⟨bb, o + j * 6 + 4, none⟩ = some (.int .i64 y.ho) := hr 4 _ rfl
                have c5_ : wr.cell? ⟨bb, o + j * 6 + 5, none⟩ = some (.int .u64 y.nx) := hr 5 _ rfl
                have ga := fun i => cell_of_row wr an i _ _ _ HTX.out.ran
                have kg := fun i => cell_of_row wr ag i _ _ _ HTX.out.rg
                have fg := fun i => frozen_of_row wr ag i _ _ HTX.out.rg
                obtain ⟨z, hz⟩ : ∃ z, s.now[j]? = some z := ⟨_, List.getElem?_eq_getElem (by have := HTX.out.ln; omega)⟩
                have HZ := Lib.hid hz
                have kn : wr.cell? ⟨nb, j, none⟩ = some (.int .i64 z) := cell_of_row _ _ j _ _ _ HTX.out.rn |>.trans (rowS_get hz)
                have l1 := block_lt HTX.out.ran
                have l2 := block_lt HTX.out.rg
                have l3 := block_lt HTX.out.rn
                clear hy hr hz
                cases Q
                · go_wp2_with fail
                  go_region
                  go_wp2
                  go_roundw
                  case rel =>
                    refine ⟨j + 1, false, by omega, by go_num, ⟨fun h => (by cases h), fun h => HQ.out.2 ⟨h.1, fun l y' hl => h.2 l y' (by omega)⟩⟩, ?_, ?_⟩
                    · exact ((HTX.out.setG false).below ((Below.refl _ _).alloc (Nat.le_refl _) _)).drew
                    · exact ((HBX.out.setCell (p := ⟨ag, 0, none⟩) (by have := HTX.out.o1; have := HTX.out.o2; have := HTX.out.o3; show au ≤ ag; omega) (.bool false)).alloc (by have := block_lt HTX.out.ru; simp; omega) _).drew
                  case measure => simp [intOf]; omega
                · go_wp2_with fail
                  go_region
                  go_wp2
                  go_roundw
                  case rel =>
                    refine ⟨j + 1, y.st == z, by omega, by go_num, ?_, ?_, ?_⟩
                    · have hall := HQ.out.1 (by first | rfl | trivial)
                      rw [beq_iff_eq]
                      constructor
                      · intro hyz
                        refine ⟨hall.1, fun l y' hl hy' => ?_⟩
                        rcases Nat.lt_or_ge l j with h | h
                        · exact hall.2 l y' h hy'
                        · obtain rfl : l = j := by omega
                          have := HY.out.symm.trans hy'
                          injection this with this
                          rw [← this, hyz, List.getD_eq_getElem?_getD, HZ.out]; rfl
                      · rintro ⟨-, h⟩
                        rw [h j y (by omega) HY.out, List.getD_eq_getElem?_getD, HZ.out]; rfl
                    · exact ((HTX.out.setG (y.st == z)).below ((Below.refl _ _).alloc (Nat.le_refl _) _)).drew
                    · exact ((HBX.out.setCell (p := ⟨ag, 0, none⟩) (by have := HTX.out.o1; have := HTX.out.o2; have := HTX.out.o3; show au ≤ ag; omega) (.bool (y.st == z))).alloc (by have := block_lt HTX.out.ru; simp; omega) _).drew
                  case measure => simp [intOf]; omega
              · obtain rfl : n = j := by omega
                have gh := fun i => cell_of_row wr ah i _ _ _ HTX.out.rah
                have kg := fun i => cell_of_row wr ag i _ _ _ HTX.out.rg
                have HF := Lib.hid (toldAt_end (t := t) (G := G) (Q := Q) (s := s) (u := u) (by rw [HCL.out, HHL.out]; exact HAT.out) (by rw [HCL.out]; exact HTX.out.ln) (by rw [HCL.out]; exact HQ.out))
                clear hlt
                go_wp2_with fail
                go_region
                go_wp2
                go_ret2
                refine ⟨⟨.slice (some ⟨tb, 0, none⟩) n c2, s.thn, by rw [← HF.out.1]; rfl, ?_, fun h => HF.out.2 (by rw [HF.out.1]; exact h)⟩, HBA2.out.drew⟩
                exact own_status_back HTBw.out HTX.out.drew.rt ⟨HC1.out, HC2.out⟩ HSP.out HTX.out.lt
end Go.Proofs.Ytadabjkhiaidcaa
end

section
set_option linter.unusedVariables false
set_option linter.unusedSimpArgs false
namespace Go.Proofs.Ytadabjkhiaidcaa
open Go.RowKit

theorem Tk_execLoad (ρ : Operand → Value) (dst : Option Tmp) (x : Operand) (ty : TypeId) (pos : String) (after : Array Edge) (guard : Option (Nat × Bool)) :
    execOp ρ { dst, op := .load 45 x, type := ty, pos, after, guard } = recLoad 45 (ρ x) := rfl
theorem Tk_execStore (ρ : Operand → Value) (dst : Option Tmp) (x y : Operand) (ty : TypeId) (pos : String) (after : Array Edge) (guard : Option (Nat × Bool)) :
    execOp ρ { dst, op := .store 45 x y, type := ty, pos, after, guard } = recStore 45 (ρ x) (ρ y) := rfl
theorem Tk_load (w : World) (b o : Nat) (h : okL 11 w b o) : (recLoad 45 (.pointer (some ⟨b, o, none⟩))).run Try.prog w = .ok (.value (.agg (loL 11 w b o).toArray)) w := by
  unfold recLoad
  rw [Sem.run_bind, run_load_rec 11 Try.underlying45 rfl (by kernel_rfl) w b o h]
  rfl
theorem Tk_store (w : World) (b o : Nat) (cs : List Value) (ht : w.there b o 11) (hn : cs.length = 11) (h1 : cs.all (·.oneCell') = true) :
    (recStore 45 (.pointer (some ⟨b, o, none⟩)) (.agg cs.toArray)).run Try.prog w = .ok .skip (w.setCells b o cs) := by
  unfold recStore
  rw [Sem.run_bind, run_store_rec 11 (by kernel_rfl) w b o cs ht hn h1]
  rfl
attribute [local go_sem ↓] Tk_execLoad

attribute [local go_sem] Tk_load loL_drew okL_drew

theorem all_not {l : List Cpn} {q : Cpn → Bool} : l.any (fun x => !q x) = true ↔ ∃ x ∈ l, (fun x => !q x) x = true := by simp
set_option maxRecDepth 4000 in
set_option maxHeartbeats 4000000 in
theorem tmay_any (t : Tk) (c x h : Sl) (w : World) (ts : TS w t c x h) : Calls Try.prog 60 #[.agg #[.int .u64 t.num, .string t.loc, .int .i64 t.iss, .slice c.p c.n c.c, .slice x.p x.n x.c, .int .u64 t.prev, .int .u64 t.org, .int .u64 t.fst, .int .i64 t.vou, .int .i64 t.posts, .slice h.p h.n h.c]] w fun e w' => e = .returned (.bool (Tkt.mayB t)) ∧ Below w.heap.size w w' := by
  have HTS := Lib.hid ts
  have HMH := Lib.hid (fun W => mayHead_any t c x h ts.wf W)
  have HMT := Lib.hid (fun W (hW : Below w.heap.size w W) => tmayTaxes_any t.ts x.p x.n x.c W (ts.below hW).ts)
  have HTO := Lib.hid (fun W (hW : Below w.heap.size w W) => told_any t c x h 1000000 W (ts.below hW))
  have HCF := Lib.hid (fun W (hW : Below w.heap.size w W) hc => hasCp_any t.cs (fun y => !Tkt.cpnB t.num y) (t.cs.any (fun y => !Tkt.cpnB t.num y)) all_not c.p c.n c.c w.heap.size W (ts.below hW).cs hc)
  have HC1 := Lib.hid (fun (y : Cpn) (hy : y ∈ t.cs) W hx => may1_any t c x h y (ts.wf.cs y hy) ts.wf.num w.heap.size W hx)
  have HB := Lib.hid ((Below.refl w.heap.size w).alloc (Nat.le_refl _) (.cells #[.int .u64 t.num, .string t.loc, .int .i64 t.iss, .slice c.p c.n c.c, .slice x.p x.n x.c, .int .u64 t.prev, .int .u64 t.org, .int .u64 t.fst, .int .i64 t.vou, .int .i64 t.posts, .slice h.p h.n h.c] 45 (0, 0)))
  have HR := Lib.hid (new_rowW w (.cells #[.int .u64 t.num, .string t.loc, .int .i64 t.iss, .slice c.p c.n c.c, .slice x.p x.n x.c, .int .u64 t.prev, .int .u64 t.org, .int .u64 t.fst, .int .i64 t.vou, .int .i64 t.posts, .slice h.p h.n h.c] 45 (0, 0)) _ rfl)
  have hc := fun j => cell_of_row _ w.heap.size j _ _ _ HR.out
  obtain ⟨f1, f2⟩ := row_loT 11 HR.out rfl rfl
  have l1 := ts.cs.length
  have l2 := ts.hs.length
  unfold maxLen at l1 l2
  obtain ⟨l1, l1', l1''⟩ := l1
  obtain ⟨l2, l2', l2''⟩ := l2
  have HTOP : Hid (Tkt.headB t = true → 0 ≤ t.iss) := Lib.hid (fun hh => by unfold Tkt.headB Tkt.dayB at hh; simp at hh; omega)
  have HFIN : Hid (Tkt.mayB t = (Tkt.headB t && (decide (1 ≤ c.n) && decide (c.n ≤ 4) && decide (h.n ≤ 60)) && !(t.cs.any fun y => !Tkt.cpnB t.num y) && (Tkt.taxB 1 t.ts && decide (t.ts.length ≤ 4)) && Tkt.histB 1000000 t)) := Lib.hid (by
    unfold Tkt.mayB Tkt.lensB
    rw [l1, l2, Tkt.histB_any 0 1000000, ← List.not_all_eq_any_not, Bool.not_not]
    generalize decide (1 ≤ t.cs.length) = b1
    generalize decide (t.cs.length ≤ 4) = b2
    generalize decide (t.ts.length ≤ 4) = b3
    generalize decide (t.hs.length ≤ 60) = b4
    cases b1 <;> cases b2 <;> cases b3 <;> cases b4 <;> cases Tkt.headB t <;> cases (t.cs.all fun y => Tkt.cpnB t.num y) <;> cases Tkt.taxB 1 t.ts <;> cases Tkt.histB 1000000 t <;> rfl)
  have H1L : Hid (c.n = t.cs.length) := Lib.hid l1
  clear ts l1 l2
  generalize Tkt.mayB t = bv at *
  generalize Tkt.headB t = hd at *
  generalize (t.cs.any fun y => !Tkt.cpnB t.num y) = an at *
  generalize (Tkt.taxB 1 t.ts && decide (t.ts.length ≤ 4)) = tx at *
  generalize Tkt.histB 1000000 t = hi at *
  go_enter Try.func60, Try.ntmps60
  go_wp2_with (first | (go_at_call 83; refine (HMH.out _).mono ?_; rintro e wn ⟨rfl, hbn⟩; have HB := Lib.hid (HB.out.trans (hbn.mono HB.out.size)); have HR := Lib.hid ((hbn.block _ (block_lt HR.out)).trans HR.out); have hc := fun j => cell_of_row _ w.heap.size j _ _ _ HR.out; obtain ⟨f1, f2⟩ := row_loT 11 HR.out rfl rfl; clear hbn) | (go_at_call 84; refine (HMT.out _ HB.out).mono ?_; rintro e wn ⟨rfl, hbn⟩; have HB := Lib.hid (HB.out.trans (hbn.mono HB.out.size)); have HR := Lib.hid ((hbn.block _ (block_lt HR.out)).trans HR.out); have hc := fun j => cell_of_row _ w.heap.size j _ _ _ HR.out; obtain ⟨f1, f2⟩ := row_loT 11 HR.out rfl rfl; clear hbn) | (go_at_call 47; refine (HCF.out _ HB.out (fun y hy W hW => HC1.out y hy W ((hW.block _ (block_lt HR.out)).trans HR.out))).mono ?_; rintro e wn ⟨rfl, hbn⟩; have HB := Lib.hid (HB.out.trans (hbn.mono HB.out.size)); have HR := Lib.hid ((hbn.block _ (block_lt HR.out)).trans HR.out); have hc := fun j => cell_of_row _ w.heap.size j _ _ _ HR.out; obtain ⟨f1, f2⟩ := row_loT 11 HR.out rfl rfl; clear hbn) | (go_at_call 87; refine (HTO.out _ HB.out (by have := H1L.out; omega) (by have := H1L.out; omega) (HTOP.out (by simp_all))).mono ?_; rintro e wn ⟨⟨v, thn, rfl, -, -⟩, hbn⟩; have HB := Lib.hid (HB.out.trans (hbn.mono HB.out.size)); have HR := Lib.hid ((hbn.block _ (block_lt HR.out)).trans HR.out); have hc := fun j => cell_of_row _ w.heap.size j _ _ _ HR.out; obtain ⟨f1, f2⟩ := row_loT 11 HR.out rfl rfl; clear hbn))
  all_goals
    go_ret
    refine ⟨ret_bool ?_, HB.out⟩
    rw [HFIN.out, Bool.eq_iff_iff]
    simp_all
    try omega
    try (intro g1 g2 g3 g4 g5; simp_all; omega)
end Go.Proofs.Ytadabjkhiaidcaa
end

section
set_option linter.unusedVariables false
set_option linter.unusedSimpArgs false
namespace Go.Proofs.Ytadabjkhiaidcaa
open Go.RowKit

section
variable {P : Program} {ops : Array Oper} {Q : Exit → Act → World → Prop} {md : Region.Mode} {C : World → Prop} {s0 : Nat}

end

theorem elemTx : Elem Try.prog Txx.cells 2 16 23 56 := Elem.of Try.underlying23 (by kernel_rfl) (by decide) (by decide) Txx.cells_length Txx.cells_one
theorem elemEv : Elem Try.prog Evt.cells 4 32 43 96 := Elem.of Try.underlying43 (by kernel_rfl) (by decide) (by decide) Evt.cells_length Evt.cells_one

set_option maxRecDepth 4000 in
set_option maxHeartbeats 400000 in
theorem cloneCp_any (v : Value) (l : List Cpn) (hl : l.length ≤ 1073741824) (w : World) (hv : LS Cpn.cells 6 w v l) :
    Calls Try.prog 80 #[v] w fun e w' => ∃ v', e = .returned v' ∧ w'.ownsRow w.heap.size 37 6 v' l.length (encL Cpn.cells l) ∧ Below w.heap.size w w' := by
  have HV := Lib.hid hv
  obtain ⟨p, cap, rfl, h1, h2, h3⟩ := hv
  have hq := fun (W : World) => (Lib.run_eql_slice_nil (P := Try.prog) W _ _ p l.length cap 0 0 Try.underlying22)
  have H3 := Lib.hid h3; clear h3
  cases p with
  | none =>
    have hl0 : l = [] := by
      by_cases hl : l = []
      · exact hl
      · obtain ⟨b, o, h, _⟩ := H3.out hl; cases h
    subst hl0
    simp only [List.length_nil] at *
    go_enter Try.func80, Try.ntmps80
    go_wp2
    go_ret
    exact ⟨_, rfl, World.ownsRow_nil _ _ _ _, Below.refl _ _⟩
  | some ad =>
    generalize hn : l.length = n at *
    have HN := Lib.hid hn; clear hn
    go_enter Try.func80, Try.ntmps80
    go_wp2_with (at_builtin; refine wpList_append_recs elemCp rfl _ _ rfl w.heap.size _ 0 [] rfl (recs_of_row (new_rowW _ _ _ rfl) (Nat.le_refl _)) _ l rfl (HV.out.alloc _) (by have := HN.out; omega) (by simp) ?_; intro v1 w1 hown1 hg1 hn1 hat1)
    have HO : Hid (w1.ownsRow w.heap.size 37 6 v1 n (encL Cpn.cells l)) := Lib.hid (by have := hown1; rw [Nat.zero_add, HN.out] at this; exact this)
    have HB : Hid (Below w.heap.size w w1) := Lib.hid (((Below.refl w.heap.size w).alloc (Nat.le_refl _) _).grown hg1 (by simp) (fun b hb => by injection hb with hb; simp at hb; omega))
    clear hown1 hg1 hn1 hat1
    go_wp2
    go_ret
    exact ⟨_, rfl, HO.out, HB.out⟩

set_option maxRecDepth 4000 in
set_option maxHeartbeats 400000 in
theorem cloneTx_any (v : Value) (l : List Txx) (hl : l.length ≤ 1073741824) (w : World) (hv : LS Txx.cells 2 w v l) :
    Calls Try.prog 27 #[v] w fun e w' => ∃ v', e = .returned v' ∧ w'.ownsRow w.heap.size 56 2 v' l.length (encL Txx.cells l) ∧ Below w.heap.size w w' := by
  have HV := Lib.hid hv
  obtain ⟨p, cap, rfl, h1, h2, h3⟩ := hv
  have hq := fun (W : World) => (Lib.run_eql_slice_nil (P := Try.prog) W _ _ p l.length cap 0 0 Try.underlying23)
  have H3 := Lib.hid h3; clear h3
  cases p with
  | none =>
    have hl0 : l = [] := by
      by_cases hl : l = []
      · exact hl
      · obtain ⟨b, o, h, _⟩ := H3.out hl; cases h
    subst hl0
    simp only [List.length_nil] at *
    go_enter Try.func27, Try.ntmps27
    go_wp2
    go_ret
    exact ⟨_, rfl, World.ownsRow_nil _ _ _ _, Below.refl _ _⟩
  | some ad =>
    generalize hn : l.length = n at *
    have HN := Lib.hid hn; clear hn
    go_enter Try.func27, Try.ntmps27
    go_wp2_with (at_builtin; refine wpList_append_recs elemTx rfl _ _ rfl w.heap.size _ 0 [] rfl (recs_of_row (new_rowW _ _ _ rfl) (Nat.le_refl _)) _ l rfl (HV.out.alloc _) (by have := HN.out; omega) (by simp) ?_; intro v1 w1 hown1 hg1 hn1 hat1)
    have HO : Hid (w1.ownsRow w.heap.size 56 2 v1 n (encL Txx.cells l)) := Lib.hid (by have := hown1; rw [Nat.zero_add, HN.out] at this; exact this)
    have HB : Hid (Below w.heap.size w w1) := Lib.hid (((Below.refl w.heap.size w).alloc (Nat.le_refl _) _).grown hg1 (by simp) (fun b hb => by injection hb with hb; simp at hb; omega))
    clear hown1 hg1 hn1 hat1
    go_wp2
    go_ret
    exact ⟨_, rfl, HO.out, HB.out⟩

set_option maxRecDepth 4000 in
set_option maxHeartbeats 400000 in
theorem cloneEv_any (v : Value) (l : List Evt) (hl : l.length ≤ 1073741824) (w : World) (hv : LS Evt.cells 4 w v l) :
    Calls Try.prog 107 #[v] w fun e w' => ∃ v', e = .returned v' ∧ w'.ownsRow w.heap.size 96 4 v' l.length (encL Evt.cells l) ∧ Below w.heap.size w w' := by
  have HV := Lib.hid hv
  obtain ⟨p, cap, rfl, h1, h2, h3⟩ := hv
  have hq := fun (W : World) => (Lib.run_eql_slice_nil (P := Try.prog) W _ _ p l.length cap 0 0 Try.underlying43)
  have H3 := Lib.hid h3; clear h3
  cases p with
  | none =>
    have hl0 : l = [] := by
      by_cases hl : l = []
      · exact hl
      · obtain ⟨b, o, h, _⟩ := H3.out hl; cases h
    subst hl0
    simp only [List.length_nil] at *
    go_enter Try.func107, Try.ntmps107
    go_wp2
    go_ret
    exact ⟨_, rfl, World.ownsRow_nil _ _ _ _, Below.refl _ _⟩
  | some ad =>
    generalize hn : l.length = n at *
    have HN := Lib.hid hn; clear hn
    go_enter Try.func107, Try.ntmps107
    go_wp2_with (at_builtin; refine wpList_append_recs elemEv rfl _ _ rfl w.heap.size _ 0 [] rfl (recs_of_row (new_rowW _ _ _ rfl) (Nat.le_refl _)) _ l rfl (HV.out.alloc _) (by have := HN.out; omega) (by simp) ?_; intro v1 w1 hown1 hg1 hn1 hat1)
    have HO : Hid (w1.ownsRow w.heap.size 96 4 v1 n (encL Evt.cells l)) := Lib.hid (by have := hown1; rw [Nat.zero_add, HN.out] at this; exact this)
    have HB : Hid (Below w.heap.size w w1) := Lib.hid (((Below.refl w.heap.size w).alloc (Nat.le_refl _) _).grown hg1 (by simp) (fun b hb => by injection hb with hb; simp at hb; omega))
    clear hown1 hg1 hn1 hat1
    go_wp2
    go_ret
    exact ⟨_, rfl, HO.out, HB.out⟩
end Go.Proofs.Ytadabjkhiaidcaa
end
