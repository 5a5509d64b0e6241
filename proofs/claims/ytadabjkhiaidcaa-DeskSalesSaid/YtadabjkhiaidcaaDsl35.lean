/- Contracts: slices.DeleteFunc over coupons, desk.free. -/
import Derived.Test.YtadabjkhiaidcaaDsl32
import Derived.Test.YtadabjkhiaidcaaDsl31
import Derived.Test.YtadabjkhiaidcaaDsl12
import Derived.Test.YtadabjkhiaidcaaDsl26
import Derived.Test.YtadabjkhiaidcaaDsl3
import Derived.Test.YtadabjkhiaidcaaDsl34

set_option linter.unusedVariables false
set_option linter.unusedSimpArgs false
namespace Go.Proofs.Ytadabjkhiaidcaa
open Go.RowKit Go.Deep

theorem row_allocF {w : World} {g : Nat} {cs : Array Value} {e : TypeId} {fr : Nat × Nat} (h : w.heap[g]? = some (.cells cs e fr)) (o : Obj) : (w.alloc o).heap[g]? = some (.cells cs e fr) := (((Below.refl w.heap.size w).alloc (Nat.le_refl _) o).block g (block_lt h)).trans h
/-- coupons that are not gone -/
def Dk.left (gone : List Int) (l : List Cpn) : List Cpn := l.filter (fun y => !gone.contains y.st)
/-- what comes back of a ticket's taxes -/
def Dk.freeN (gone : List Int) (t : Tk) : Int := if Dk.standsB (Dk.left gone t.cs) = true then 0 else Tkt.taxI t.ts
theorem Dk.left_snoc {gone : List Int} {l : List Cpn} {k : Nat} {y : Cpn} (h : l[k]? = some y) : Dk.left gone (l.take (k + 1)) = if gone.contains y.st = true then Dk.left gone (l.take k) else Dk.left gone (l.take k) ++ [y] := by
  unfold Dk.left
  rw [List.take_add_one, h, List.filter_append]
  have e : List.filter (fun y : Cpn => !gone.contains y.st) [y] = if gone.contains y.st = true then [] else [y] := by
    rw [List.filter_cons, List.filter_nil]
    cases gone.contains y.st <;> rfl
  show List.filter _ (l.take k) ++ List.filter _ [y] = _
  rw [e]
  split <;> simp
theorem Dk.left_le (gone : List Int) (l : List Cpn) : (Dk.left gone l).length ≤ l.length := List.length_filter_le _ _
set_option maxRecDepth 4000 in
set_option maxHeartbeats 1000000 in
theorem dfree1_any (y : Cpn) (gone : List Int) (gq : Nat) (po : Option Addr) (no co : Nat) (w : World) (hc : w.cell? ⟨gq, 0, none⟩ = some (.slice po no co)) (ho : LS stC 1 w (.slice po no co) gone) :
    Calls Try.prog 81 #[.agg #[.int .i64 y.fl, .int .i64 y.dy, .int .i64 y.va, .int .i64 y.st, .int .i64 y.ho, .int .u64 y.nx], .pointer (some ⟨gq, 0, none⟩)] w fun e w' => e = .returned (.bool (gone.contains y.st)) ∧ Below w.heap.size w w' := by
  have hb := (Below.refl w.heap.size w).alloc (Nat.le_refl _) (.cells #[.int .i64 y.fl, .int .i64 y.dy, .int .i64 y.va, .int .i64 y.st, .int .i64 y.ho, .int .u64 y.nx] 37 (0, 0))
  have HB := Lib.hid hb
  have kc := fun j => cell_of_row _ w.heap.size j _ _ _ (new_rowW w (.cells #[.int .i64 y.fl, .int .i64 y.dy, .int .i64 y.va, .int .i64 y.st, .int .i64 y.ho, .int .u64 y.nx] 37 (0, 0)) _ rfl)
  have kq := (hb.cell (p := ⟨gq, 0, none⟩) (cell_blockW hc)).trans hc
  have HC := Lib.hid (containsSt_any gone y.st po no co _ (ho.below hb))
  generalize gone.contains y.st = q at *
  clear hb hc ho
  go_enter Try.func81, Try.ntmps81
  go_wp2_with fail
  refine HC.out.mono ?_
  rintro e w1 ⟨rfl, hw⟩
  subst hw
  clear kc kq
  go_wp2
  go_ret
  exact ⟨rfl, HB.out⟩
set_option maxRecDepth 4000 in
set_option maxHeartbeats 1000000 in
theorem idxGone_any (l : List Cpn) (gone : List Int) (gq : Nat) (p : Option Addr) (n cap : Nat) (w : World) (hs : LS Cpn.cells 6 w (.slice p n cap) l)
    (hc : ∀ (y : Cpn) (W : World), Below w.heap.size w W → Calls Try.prog 81 #[.agg #[.int .i64 y.fl, .int .i64 y.dy, .int .i64 y.va, .int .i64 y.st, .int .i64 y.ho, .int .u64 y.nx], .pointer (some ⟨gq, 0, none⟩)] W fun e w' => e = .returned (.bool (gone.contains y.st)) ∧ Below W.heap.size W w') :
    Calls Try.prog 77 #[.slice p n cap, .func (.func 81) #[] #[.pointer (some ⟨gq, 0, none⟩)]] w fun e w' => (∃ j : Int, e = .returned (.int .i64 j) ∧ ((j = -1 ∧ Dk.left gone l = l) ∨ ∃ k : Nat, j = k ∧ k < n ∧ Dk.left gone (l.take (k + 1)) = l.take k)) ∧ Below w.heap.size w w' := by
  have HPS := Lib.hid hs; have HN := Lib.hid hs.length.1
  have hn1 := hs.length.2.1
  have hn2 := hs.length.2.2
  unfold maxLen at hn2
  have HC := Lib.hid hc
  clear hs hc
  go_enter Try.func77, Try.ntmps77
  go_wp2
  go_loopw [8] (fun i wr => ∃ k : Nat, k ≤ n ∧ i = .int .i64 k ∧ Dk.left gone (l.take k) = l.take k ∧ Below w.heap.size w wr) (fun i _ => n - (intOf i).toNat)
  case atStart => exact ⟨0, Nat.zero_le _, rfl, rfl, Below.refl _ _⟩
  case round =>
    obtain ⟨k, hk, rfl, hall, hbw⟩ := hrel
    have HALL := Lib.hid hall; have HBW := Lib.hid hbw
    clear hall
    by_cases hlt : k < n
    · obtain ⟨y, hy⟩ : ∃ y, l[k]? = some y := ⟨_, List.getElem?_eq_getElem (by have := HN.out; omega)⟩
      obtain ⟨bb, o, rfl, hbl, hr⟩ := (HPS.out.below hbw).at hy
      have HY := Lib.hid hy
      have HW := Lib.hid (HC.out y wr HBW.out)
      have c0 : wr.cell? ⟨bb, o + k * 6, none⟩ = some (.int .i64 y.fl) := hr 0 _ rfl
      have c1 : wr.cell? ⟨bb, o + k * 6 + 1, none⟩ = some (.int .i64 y.dy) := hr 1 _ rfl
      have c2 : wr.cell? ⟨bb, o + k * 6 + 2, none⟩ = some (.int .i64 y.va) := hr 2 _ rfl
      have c3 : wr.cell? ⟨bb, o + k * 6 + 3, none⟩ = some (.int .i64 y.st) := hr 3 _ rfl
      have c4 : wr.cell? ⟨bb, o + k * 6 + 4, none⟩ = some (.int .i64 y.ho) := hr 4 _ rfl
      have c5 : wr.cell? ⟨bb, o + k * 6 + 5, none⟩ = some (.int .u64 y.nx) := hr 5 _ rfl
      clear hy hbw hr
      obtain ⟨q, hq⟩ : ∃ q, gone.contains y.st = q := ⟨_, rfl⟩
      rw [hq] at HW
      have HQ := Lib.hid hq
      clear hq
      go_wp2_with fail
      refine HW.out.mono ?_
      rintro e w1 ⟨rfl, hb1⟩
      have HBW1 := Lib.hid (HBW.out.trans (hb1.mono HBW.out.size))
      clear hb1 c0 c1 c2 c3 c4 c5
      cases q
      · go_wp2
        go_roundw
        case rel =>
          refine ⟨k + 1, by omega, by go_num, ?_, HBW1.out⟩
          rw [Dk.left_snoc HY.out, if_neg (by rw [HQ.out]; decide), HALL.out, List.take_add_one, HY.out]
          rfl
        case measure => simp [intOf]; omega
      · go_wp2
        go_ret
        refine ⟨⟨k, rfl, .inr ⟨k, rfl, hlt, ?_⟩⟩, HBW1.out⟩
        rw [Dk.left_snoc HY.out, if_pos HQ.out, HALL.out]
    · obtain rfl : k = n := by omega
      clear hbw
      go_wp2
      go_ret
      refine ⟨⟨-1, rfl, .inl ⟨rfl, ?_⟩⟩, HBW.out⟩
      have := HALL.out
      rw [List.take_of_length_le (by have := HN.out; omega)] at this
      exact this
/-- 'clear(s)' of records -/
theorem run_clear_recs {P : Program} (w : World) (t e : TypeId) (z : Value) (k : Nat) (ht : P.underlying t = some (.slice e)) (hv : ∀ w, (zeroValue e).run P w = .ok z w) (hz : z.cells.size = k) (h1 : ∀ v ∈ z.cells, v.oneCell' = true) (hk : 0 < k) (b o n c : Nat) (hn : 0 < n)
    (hc : w.there b o (n * k)) : ∃ L : List Value, L.length = n * k ∧ ∀ ty, (Builtin.clear_ #[t] ty #[.slice (some ⟨b, o, none⟩) n c]).run P w = .ok (.tuple #[]) (w.setCells b o L) := by
  have hlen : (Builtin.zeroCells z.cells n).toList.length = n * k := by simp [Builtin.zeroCells, hz]
  refine ⟨(Builtin.zeroCells z.cells n).toList, hlen, fun ty => ?_⟩
  have hst := run_storeCells_cells (P := P) b o (Builtin.zeroCells z.cells n).toList 0 w (fun j hj => by rw [Nat.add_zero]; exact (hc j (by omega)).1) (fun j hj => by rw [Nat.add_zero]; exact (hc j (by omega)).2) (by
    intro v hv'
    simp only [Builtin.zeroCells, Array.toList_map, List.mem_map] at hv'
    obtain ⟨i, _, rfl⟩ := hv'
    refine h1 _ ?_
    have hi : i % z.cells.size < z.cells.size := Nat.mod_lt _ (by omega)
    rw [getElem!_pos z.cells _ hi]
    exact Array.getElem_mem hi)
  simp only [Nat.add_zero] at hst
  obtain ⟨m, rfl⟩ : ∃ m, n = m + 1 := ⟨n - 1, by omega⟩
  simp [Builtin.clear_, run_underlying ht, hv, hst]
theorem setCells_mid {e : TypeId} {g : Nat} : ∀ (cs : List Value) (o : Nat) (w : World) (cur : Array Value), w.heap[g]? = some (.cells cur e (0, 0)) → o + cs.length ≤ cur.size →
    ∃ es : Array Value, (w.setCells g o cs).heap[g]? = some (.cells es e (0, 0)) ∧ es.size = cur.size ∧ (∀ q, q < cs.length → es[o + q]? = cs[q]?) ∧ ∀ p, (p < o ∨ o + cs.length ≤ p) → es[p]? = cur[p]?
  | [], o, w, cur, h, hs => ⟨cur, h, rfl, (fun q hq => absurd hq (Nat.not_lt_zero _)), fun _ _ => rfl⟩
  | v :: vs, o, w, cur, h, hs => by
    have h1 : (w.setCell ⟨g, o, none⟩ v).heap[g]? = some (.cells (cur.setIfInBounds o v) e (0, 0)) := heap_setCell_same _ _ _ _ _ _ h
    simp only [List.length_cons] at hs
    obtain ⟨es, e1, e2, e3, e4⟩ := setCells_mid vs (o + 1) _ _ h1 (by simp; omega)
    refine ⟨es, e1, by rw [e2]; simp, fun q hq => ?_, fun p hp => ?_⟩
    · cases q with
      | zero =>
        rw [Nat.add_zero, e4 o (.inl (by omega)), Array.getElem?_setIfInBounds_self, if_pos (by omega)]
        rfl
      | succ q =>
        have := e3 q (by simpa using hq)
        rw [show o + (q + 1) = o + 1 + q by omega, this]
        simp
    · simp only [List.length_cons] at hp
      rw [e4 p (by omega)]
      rw [Array.getElem?_setIfInBounds_ne (by omega)]
theorem run_headC (q : Option Addr) (n cap k : Nat) (h : k ≤ cap) (W : World) : (Instr.slice 22 (.slice q n cap) none (some (.int .i64 (k : Int))) none).run Try.prog W = .ok (.slice q k cap) W := by
  have ht : Try.prog.underlying 22 = some (.slice (Try.prog.elem 22)) := by kernel_rfl
  have hz : ∀ W : World, (sizeOf (Try.prog.elem 22)).run Try.prog W = .ok 6 W := fun W => by
    rw [show Try.prog.elem 22 = 37 from by kernel_rfl]; simp [go_sem]
  rw [run_slice_h W _ _ _ _ ht _ _ (by omega) (by omega), hz]
  cases q <;> simp [sliced, Result.andThen, Addr.add]
attribute [local go_sem ↓] Cp_execLoad Cp_execStore

attribute [local go_sem] Cp_load Cp_store loL_drew okL_drew there_sc World.there_drew

set_option maxRecDepth 4000 in
set_option maxHeartbeats 4000000 in
theorem delGone_any (l : List Cpn) (gone : List Int) (gq g n cap : Nat) (cur : Array Value) (w : World) (hr : w.heap[g]? = some (.cells cur 37 (0, 0))) (hsz : cap * 6 = cur.size) (hn : n = l.length) (hnc : n ≤ cap) (hcap : cap ≤ maxLen) (hcur : ∀ (k : Nat) (y : Cpn), l[k]? = some y → ∀ j, j < 6 → cur[k * 6 + j]? = y.cells[j]?)
    (hc : ∀ (y : Cpn) (W : World), Only g w W → Calls Try.prog 81 #[.agg #[.int .i64 y.fl, .int .i64 y.dy, .int .i64 y.va, .int .i64 y.st, .int .i64 y.ho, .int .u64 y.nx], .pointer (some ⟨gq, 0, none⟩)] W fun e w' => e = .returned (.bool (gone.contains y.st)) ∧ Below W.heap.size W w') :
    Calls Try.prog 79 #[.slice (some ⟨g, 0, none⟩) n cap, .func (.func 81) #[] #[.pointer (some ⟨gq, 0, none⟩)]] w fun e w' => ∃ c' : Nat, e = .returned (.slice (some ⟨g, 0, none⟩) (Dk.left gone l).length c') ∧ LS Cpn.cells 6 w' (.slice (some ⟨g, 0, none⟩) (Dk.left gone l).length c') (Dk.left gone l) ∧ Only g w w' := by
  have hg := block_lt hr
  have hls : LS Cpn.cells 6 w (.slice (some ⟨g, 0, none⟩) n cap) l := by
    refine ⟨some ⟨g, 0, none⟩, cap, by rw [hn], by omega, hcap, fun _ => ⟨g, 0, rfl, hg, fun i y hi j v hj => ?_⟩⟩
    rw [Nat.zero_add, cell_of_row w g _ _ _ _ hr, hcur i y hi j (by have := (List.getElem?_eq_some_iff.1 hj).1; simpa [Cpn.cells] using this)]
    exact hj
  have HI := Lib.hid (idxGone_any l gone gq (some ⟨g, 0, none⟩) n cap w hls (fun y W hW => hc y W (Only.of_below hW)))
  have HR := Lib.hid hr; have HSZ := Lib.hid hsz; have HN := Lib.hid hn; have HCUR := Lib.hid hcur; have HC := Lib.hid hc; have HLS := Lib.hid hls
  have HCAP := Lib.hid hcap
  have hcap2 : cap ≤ 9223372036854775807 := by unfold maxLen at hcap; omega
  clear hr hsz hn hcur hc hls hcap
  go_enter Try.func79, Try.ntmps79
  go_wp2_with fail
  refine HI.out.mono ?_
  rintro e w1 ⟨⟨j, rfl, hj⟩, hb1⟩
  have HB1 := Lib.hid hb1
  clear hb1 HI
  rcases hj with ⟨rfl, hl⟩ | ⟨k, rfl, hk, hl⟩
  · go_wp2
    go_ret
    rw [hl, ← HN.out]
    exact ⟨cap, rfl, HLS.out.below HB1.out, Only.of_below HB1.out⟩
  · have HL := Lib.hid hl
    have HR1 := Lib.hid ((HB1.out.block _ (block_lt HR.out)).trans HR.out)
    clear hl
    go_wp2_with fail
    clear HLS HR
    go_loopw [5, 6] (fun iv jv wr => ∃ (j : Nat) (es : Array Value), jv = .int .i64 j ∧ j ≤ n ∧ iv = .int .i64 ((Dk.left gone (l.take j)).length : Nat) ∧ (Dk.left gone (l.take j)).length < j ∧ wr.heap[g]? = some (.cells es 37 (0, 0)) ∧ es.size = cur.size ∧ (∀ (a : Nat) (y : Cpn), (Dk.left gone (l.take j))[a]? = some y → ∀ q, q < 6 → es[a * 6 + q]? = y.cells[q]?) ∧ (∀ (a : Nat) (y : Cpn), j ≤ a → l[a]? = some y → ∀ q, q < 6 → es[a * 6 + q]? = y.cells[q]?) ∧ Only g w wr) (fun _ jv _ => n - (intOf jv).toNat)
    case atStart =>
      have hlk : (l.take k).length = k := by rw [List.length_take, Nat.min_eq_left (by have := HN.out; omega)]
      refine ⟨k + 1, cur, by go_num, by omega, by rw [HL.out, hlk], by rw [HL.out, hlk]; omega, HR1.out, rfl, ?_, fun a y _ => HCUR.out a y, Only.of_below HB1.out⟩
      intro a y ha
      rw [HL.out, List.getElem?_take] at ha
      split at ha
      · exact HCUR.out a y ha
      · cases ha
    case round =>
      obtain ⟨j, es, rfl, hj, rfl, hlt, hrow, hes, hA, hB, hO⟩ := hrel
      have HRW := Lib.hid hrow; have HES := Lib.hid hes; have HA := Lib.hid hA; have HB := Lib.hid hB; have HO := Lib.hid hO
      clear hrow hes hA hB hO HL HR1 HB1
      obtain ⟨m, hm⟩ : ∃ m, (Dk.left gone (l.take j)).length = m := ⟨_, rfl⟩
      rw [hm] at hlt ⊢
      have HM := Lib.hid hm
      have hmn : m < n := by omega
      clear hm
      by_cases hjn : j < n
      · obtain ⟨y, hy⟩ : ∃ y, l[j]? = some y := ⟨_, List.getElem?_eq_getElem (by have := HN.out; omega)⟩
        have hrg : wr.rangeAt g (j * 6) y.cells := fun q v hq => (cell_of_row wr g _ _ _ _ HRW.out).trans ((HB.out j y (Nat.le_refl _) hy q (by have := (List.getElem?_eq_some_iff.1 hq).1; simpa [Cpn.cells] using this)).trans hq)
        obtain ⟨f1, f2⟩ := loL_of hrg (Cpn.cells_length y)
        have g3 : y.cells = [.int .i64 y.fl, .int .i64 y.dy, .int .i64 y.va, .int .i64 y.st, .int .i64 y.ho, .int .u64 y.nx] := rfl
        rw [g3] at f1
        have HY := Lib.hid hy
        clear hrg g3 hy
        have tc := there_newT (w := wr) (zs := [.int .i64 0, .int .i64 0, .int .i64 0, .int .i64 0, .int .i64 0, .int .u64 0]) (e := 37) (n := 6) rfl
        have c6n : ([.int .i64 y.fl, .int .i64 y.dy, .int .i64 y.va, .int .i64 y.st, .int .i64 y.ho, .int .u64 y.nx] : List Value).length = 6 := rfl
        have c6c : ([.int .i64 y.fl, .int .i64 y.dy, .int .i64 y.va, .int .i64 y.st, .int .i64 y.ho, .int .u64 y.nx] : List Value).all (·.oneCell') = true := rfl
        go_upto_region 8 with fail
        have HP := Lib.hid (putRec (W := wr) (e := 37) (zs := [.int .i64 0, .int .i64 0, .int .i64 0, .int .i64 0, .int .i64 0, .int .u64 0]) (cs := [.int .i64 y.fl, .int .i64 y.dy, .int .i64 y.va, .int .i64 y.st, .int .i64 y.ho, .int .u64 y.nx]) rfl)
        have HRC := Lib.hid HP.out.1
        have HRW := Lib.hid ((HP.out.2.block _ (block_lt HRW.out)).trans HRW.out)
        have HO := Lib.hid (HO.out.trans (Only.of_below HP.out.2))
        clear HP tc f1 f2
        generalize (wr.alloc (.cells #[.int .i64 0, .int .i64 0, .int .i64 0, .int .i64 0, .int .i64 0, .int .u64 0] 37 (0, 0))).setCells wr.heap.size 0 [.int .i64 y.fl, .int .i64 y.dy, .int .i64 y.va, .int .i64 y.st, .int .i64 y.ho, .int .u64 y.nx] = w4 at *
        generalize wr.heap.size = gc at *
        obtain ⟨q, hq⟩ : ∃ q, gone.contains y.st = q := ⟨_, rfl⟩
        have HW := Lib.hid (HC.out y w4 HO.out)
        rw [hq] at HW
        have HQ := Lib.hid hq
        clear hq
        obtain ⟨f1, f2⟩ := row_loT 6 HRC.out rfl rfl
        go_wp2_with fail
        clear f1 f2
        refine HW.out.mono ?_
        rintro e w5 ⟨rfl, hb5⟩
        have HRC := Lib.hid ((hb5.block _ (block_lt HRC.out)).trans HRC.out)
        have HRW := Lib.hid ((hb5.block _ (block_lt HRW.out)).trans HRW.out)
        have HO := Lib.hid (HO.out.trans (Only.of_below hb5))
        clear hb5
        have hen : m * 6 + 6 ≤ es.size := by have := HES.out; have := HSZ.out; omega
        cases q
        · have HLQ : Hid (Dk.left gone (l.take (j + 1)) = Dk.left gone (l.take j) ++ [y]) := Lib.hid (by rw [Dk.left_snoc HY.out, if_neg (by rw [HQ.out]; decide)])
          obtain ⟨f1, f2⟩ := row_loT 6 HRC.out rfl rfl
          have th : w5.there g (m * 6) 6 := fun i hi => by
            rw [cell_of_row w5 g _ _ _ _ HRW.out, frozen_of_row w5 g _ _ _ HRW.out]
            exact ⟨by rw [Array.getElem?_eq_getElem (by omega)]; rfl, rfl⟩
          obtain ⟨es', e1, e2, e3, e4⟩ := setCells_mid [.int .i64 y.fl, .int .i64 y.dy, .int .i64 y.va, .int .i64 y.st, .int .i64 y.ho, .int .u64 y.nx] (m * 6) w5 es HRW.out (by simpa using hen)
          have E1 := Lib.hid e1; have E2 := Lib.hid e2; have E3 := Lib.hid e3; have E4 := Lib.hid e4
          clear e1 e2 e3 e4 hen
          go_wp2_with fail
          go_roundw
          case rel =>
            iterate 23 apply Exists.intro
            refine And.intro ?r ?f
            case f => rfl
            refine ⟨j + 1, es', by go_num, by omega, ?_, ?_, E1.out, E2.out.trans HES.out, ?_, ?_, HO.out.setCells _ _⟩
            · rw [HLQ.out, List.length_append, HM.out]; go_num
            · rw [HLQ.out, List.length_append, HM.out]; simp; omega
            · intro a z ha q hq
              rw [HLQ.out] at ha
              by_cases ham : a < m
              · rw [List.getElem?_append_left (by rw [HM.out]; exact ham)] at ha
                rw [E4.out _ (.inl (by omega))]
                exact HA.out a z ha q hq
              · have haz : a = m := by
                  have := (List.getElem?_eq_some_iff.1 ha).1
                  rw [List.length_append, HM.out] at this
                  simp at this
                  omega
                subst haz
                rw [List.getElem?_append_right (by rw [HM.out]; exact Nat.le_refl _), HM.out] at ha
                simp at ha
                subst ha
                exact E3.out q (by simpa using hq)
            · intro a z ha hz q hq
              rw [E4.out _ (.inr (by simp; omega))]
              exact HB.out a z (by omega) hz q hq
          case measure => simp [intOf]; omega
        · have HLQ : Hid (Dk.left gone (l.take (j + 1)) = Dk.left gone (l.take j)) := Lib.hid (by rw [Dk.left_snoc HY.out, if_pos HQ.out])
          clear hen
          go_wp2_with fail
          go_roundw
          case rel =>
            iterate 23 apply Exists.intro
            refine And.intro ?r2 ?f2
            case f2 => rfl
            refine ⟨j + 1, es, by go_num, by omega, by rw [HLQ.out, HM.out], by rw [HLQ.out, HM.out]; omega, HRW.out, HES.out, ?_, fun a z ha => HB.out a z (by omega), HO.out⟩
            rw [HLQ.out]
            exact HA.out
          case measure => simp [intOf]; omega
      · obtain rfl : j = n := by omega
        have hlen : l.take j = l := List.take_of_length_le (by have := HN.out; omega)
        rw [hlen] at HM HA
        have hen : m * 6 + (j - m) * 6 ≤ es.size := by have := HES.out; have := HSZ.out; omega
        have hth : wr.there g (m * 6) ((j - m) * 6) := fun i hi => by
          rw [cell_of_row wr g _ _ _ _ HRW.out, frozen_of_row wr g _ _ _ HRW.out]
          exact ⟨by rw [Array.getElem?_eq_getElem (by omega)]; rfl, rfl⟩
        obtain ⟨L, hL, hcl⟩ := run_clear_recs (P := Try.prog) wr 22 37 (.agg #[.int .i64 0, .int .i64 0, .int .i64 0, .int .i64 0, .int .i64 0, .int .u64 0]) 6 Try.underlying22 (fun w => by simp [go_sem]) rfl (by intro v hv; simp [Value.cells] at hv; rcases hv with rfl | rfl | rfl | rfl | rfl | rfl <;> rfl) (by decide) g (m * 6) (j - m) (cap - m) (by omega) hth
        have htl : ∀ W : World, (Instr.slice 22 (.slice (some ⟨g, 0, none⟩) j cap) (some (.int .i64 (m : Int))) none none).run Try.prog W = .ok (.slice (some ⟨g, m * 6, none⟩) (j - m) (cap - m)) W := fun W => by rw [run_tailC g 0 j cap m (by omega) hnc W, if_neg (by omega), Nat.zero_add]
        have hhd := fun W => run_headC (some ⟨g, 0, none⟩) j cap m (by omega) W
        obtain ⟨es', e1, e2, -, e4⟩ := setCells_mid L (m * 6) wr es HRW.out (by rw [hL]; exact hen)
        have E1 := Lib.hid e1; have E4 := Lib.hid e4
        clear e1 e2 e4 hen hth hlen
        go_wp2
        go_ret
        rw [HM.out]
        refine ⟨cap, rfl, ⟨some ⟨g, 0, none⟩, cap, by rw [HM.out], by rw [HM.out]; omega, HCAP.out, fun _ => ⟨g, 0, rfl, block_lt E1.out, fun a z ha q v hv => ?_⟩⟩, HO.out.setCells _ _⟩
        have ham : a < m := by have := (List.getElem?_eq_some_iff.1 ha).1; rw [HM.out] at this; exact this
        have hq6 : q < 6 := by have := (List.getElem?_eq_some_iff.1 hv).1; simpa [Cpn.cells] using this
        rw [cell_of_row _ g _ _ _ _ E1.out, Nat.zero_add, E4.out _ (.inl (by omega)), HA.out a z ha q hq6]
        exact hv
set_option maxRecDepth 4000 in
set_option maxHeartbeats 2000000 in
theorem delOwn_any (l : List Cpn) (gone : List Int) (gq base : Nat) (po : Option Addr) (no co : Nat) (v : Value) (w : World) (hown : w.ownsRow base 37 6 v l.length (encL Cpn.cells l)) (hc : w.cell? ⟨gq, 0, none⟩ = some (.slice po no co)) (ho : LS stC 1 w (.slice po no co) gone) (h1 : gq < base) (h2 : ∀ b, (Value.slice po no co).ownBlock = some b → b < base) :
    Calls Try.prog 79 #[v, .func (.func 81) #[] #[.pointer (some ⟨gq, 0, none⟩)]] w fun e w' => ∃ (p' : Option Addr) (k' c' : Nat), e = .returned (.slice p' k' c') ∧ LS Cpn.cells 6 w' (.slice p' k' c') (Dk.left gone l) ∧ (∀ b, (Value.slice p' k' c').ownBlock = some b → base ≤ b) ∧ ∃ g, base ≤ g ∧ Only g w w' := by
  obtain ⟨hlen, hor⟩ := hown
  rcases hor with ⟨rfl, h0⟩ | ⟨g, cap, cur, rfl, hg, hh, hnc, hcm, hcs, htk⟩
  · obtain rfl : l = [] := List.length_eq_zero_iff.1 h0
    have HI := Lib.hid (idxGone_any [] gone gq none 0 0 w (LS.nil _) (fun y W hW => dfree1_any y gone gq po no co W ((hW.cell (p := ⟨gq, 0, none⟩) (cell_blockW hc)).trans hc) (ho.below hW)))
    clear hc ho h1 h2 hlen h0
    go_enter Try.func79, Try.ntmps79
    go_wp2_with fail
    refine HI.out.mono ?_
    rintro e w1 ⟨⟨j, rfl, hj⟩, hb1⟩
    rcases hj with ⟨rfl, -⟩ | ⟨k, -, hk, -⟩
    · have HB1 := Lib.hid hb1
      clear hb1 HI
      go_wp2
      go_ret
      exact ⟨none, 0, 0, rfl, LS.nil _, (fun b hb => by cases hb), base, Nat.le_refl _, Only.of_below HB1.out⟩
    · exact absurd hk (Nat.not_lt_zero _)
  · refine (delGone_any l gone gq g l.length cap cur w hh hcs.symm rfl hnc hcm (fun k y hk j hj => ?_) (fun y W hW => ?_)).mono ?_
    · have h1 := encL_at (enc := Cpn.cells) Cpn.cells_length hk hj
      rw [← htk] at h1
      have hkl : k < l.length := (List.getElem?_eq_some_iff.1 hk).1
      rw [List.getElem?_take_of_lt (by omega)] at h1
      rw [← h1]
      simp
    · have hq : gq < w.heap.size := cell_blockW hc
      refine dfree1_any y gone gq po no co W ?_ (ho.keep hW.size (fun b hb hl => hW.block b hl (by have := h2 b hb; omega)))
      rw [World.cell?_of_block (w := w) (a := ⟨gq, 0, none⟩) (hW.block gq hq (by omega))]
      exact hc
    · rintro e w' ⟨c', rfl, hl, hO⟩
      exact ⟨_, _, _, rfl, hl, (fun b hb => by injection hb with hb; have hb : g = b := hb; omega), g, hg, hO⟩
attribute [local go_sem ↓] Tk_execLoad Tk_execStore

attribute [local go_sem] Tk_load Tk_store

set_option maxRecDepth 8000 in
set_option maxHeartbeats 4000000 in
theorem dfree_any (t : Tk) (c x h : Sl) (gone : List Int) (po : Option Addr) (no co : Nat) (w : World) (ts : TS w t c x h) (ho : LS stC 1 w (.slice po no co) gone) (hpo : ∀ b, (Value.slice po no co).ownBlock = some b → b < w.heap.size) (hb : ∀ y ∈ t.ts, 0 ≤ y.am ∧ y.am ≤ 1000000000000) (hk : t.ts.length ≤ 1000) (hkc : t.cs.length ≤ 1000) :
    Calls Try.prog 53 #[.agg #[.int .u64 t.num, .string t.loc, .int .i64 t.iss, .slice c.p c.n c.c, .slice x.p x.n x.c, .int .u64 t.prev, .int .u64 t.org, .int .u64 t.fst, .int .i64 t.vou, .int .i64 t.posts, .slice h.p h.n h.c], .slice po no co] w fun e w' => e = .returned (.int .i64 (Dk.freeN gone t)) ∧ Below w.heap.size w w' := by
  have hb0 := ((Below.refl w.heap.size w).alloc (Nat.le_refl _) (.cells #[.int .u64 t.num, .string t.loc, .int .i64 t.iss, .slice c.p c.n c.c, .slice x.p x.n x.c, .int .u64 t.prev, .int .u64 t.org, .int .u64 t.fst, .int .i64 t.vou, .int .i64 t.posts, .slice h.p h.n h.c] 45 (0, 0))).alloc (by simp) (.cells #[.slice po no co] 72 (0, 0))
  have hr0 := row_allocF (new_rowW w (.cells #[.int .u64 t.num, .string t.loc, .int .i64 t.iss, .slice c.p c.n c.c, .slice x.p x.n x.c, .int .u64 t.prev, .int .u64 t.org, .int .u64 t.fst, .int .i64 t.vou, .int .i64 t.posts, .slice h.p h.n h.c] 45 (0, 0)) _ rfl) (.cells #[.slice po no co] 72 (0, 0))
  have hr1 := new_rowW (w.alloc (.cells #[.int .u64 t.num, .string t.loc, .int .i64 t.iss, .slice c.p c.n c.c, .slice x.p x.n x.c, .int .u64 t.prev, .int .u64 t.org, .int .u64 t.fst, .int .i64 t.vou, .int .i64 t.posts, .slice h.p h.n h.c] 45 (0, 0))) (.cells #[.slice po no co] 72 (0, 0)) (w.heap.size + 1) (by simp)
  have HB0 := Lib.hid hb0; have HR0 := Lib.hid hr0; have HR1 := Lib.hid hr1
  have kc := fun j => cell_of_row _ w.heap.size j _ _ _ hr0
  have HTSO := Lib.hid ts; have HTS := Lib.hid (ts.below hb0); have HO := Lib.hid (ho.below hb0)
  have HPO := Lib.hid hpo; have HBB := Lib.hid hb; have HK := Lib.hid hk; have HKC := Lib.hid hkc
  have HSZ : Hid (((w.alloc (.cells #[.int .u64 t.num, .string t.loc, .int .i64 t.iss, .slice c.p c.n c.c, .slice x.p x.n x.c, .int .u64 t.prev, .int .u64 t.org, .int .u64 t.fst, .int .i64 t.vou, .int .i64 t.posts, .slice h.p h.n h.c] 45 (0, 0))).alloc (.cells #[.slice po no co] 72 (0, 0))).heap.size = w.heap.size + 1 + 1) := Lib.hid (by simp)
  obtain ⟨R, hR⟩ : ∃ R, Dk.freeN gone t = R := ⟨_, rfl⟩
  rw [hR]
  have HRV := Lib.hid hR
  clear hb0 hr0 hr1 ts ho hpo hb hk hkc hR
  go_enter Try.func53, Try.ntmps53
  go_wp2_with fail
  clear kc
  generalize (w.alloc (.cells #[.int .u64 t.num, .string t.loc, .int .i64 t.iss, .slice c.p c.n c.c, .slice x.p x.n x.c, .int .u64 t.prev, .int .u64 t.org, .int .u64 t.fst, .int .i64 t.vou, .int .i64 t.posts, .slice h.p h.n h.c] 45 (0, 0))).alloc (.cells #[.slice po no co] 72 (0, 0)) = W0 at *
  refine (cloneCp_any _ t.cs (by have := HKC.out; omega) W0 HTS.out.cs).mono ?_
  rintro e w1 ⟨v', rfl, hown, hb1⟩
  have HOW := Lib.hid hown
  have HD := Lib.hid (delOwn_any t.cs gone (w.heap.size + 1) W0.heap.size po no co v' w1 hown ((hb1.cell (p := ⟨w.heap.size + 1, 0, none⟩) (block_lt HR1.out)).trans (cell_of_row W0 (w.heap.size + 1) 0 _ _ _ HR1.out)) (HO.out.below hb1) (by rw [HSZ.out]; omega) (fun b hb => by have := HPO.out b hb; rw [HSZ.out]; omega))
  have HR0 := Lib.hid ((hb1.block _ (block_lt HR0.out)).trans HR0.out)
  have HTS0 := HTS
  have HTS := Lib.hid (HTS.out.below hb1)
  have HB1 := Lib.hid (HB0.out.trans (hb1.mono HB0.out.size))
  clear hown hb1 HO HPO HR1
  go_wp2_with fail
  refine HD.out.mono ?_
  rintro e w2 ⟨p', k', c', rfl, hl, hpb, g, hg, hO⟩
  have HLL := Lib.hid hl
  have hgw : w.heap.size + 1 < g := by have := HSZ.out; omega
  have HR0 := Lib.hid ((hO.block _ (block_lt HR0.out) (by omega)).trans HR0.out)
  have HB2 := Lib.hid (Only.below HB1.out (by omega) HB1.out.size hO)
  have HTS2 : Hid (TS w2 t c x h) := Lib.hid (HTS.out.only (Off.of_old HTS0.out hg) hO)
  have HPB : Hid (∀ b, (Value.slice p' k' c').ownBlock = some b → b ≠ w.heap.size) := Lib.hid (fun b hb => by have := hpb b hb; have := HSZ.out; omega)
  have hfz := fun j => frozen_of_row w2 w.heap.size j _ _ HR0.out
  have kc2 := fun j => cell_of_row w2 w.heap.size j _ _ _ HR0.out
  have hr2 : (w2.setCell ⟨w.heap.size, 3, none⟩ (.slice p' k' c')).heap[w.heap.size]? = some (.cells #[.int .u64 t.num, .string t.loc, .int .i64 t.iss, .slice p' k' c', .slice x.p x.n x.c, .int .u64 t.prev, .int .u64 t.org, .int .u64 t.fst, .int .i64 t.vou, .int .i64 t.posts, .slice h.p h.n h.c] 45 (0, 0)) := heap_setCell_same _ _ _ _ _ _ HR0.out
  have HO3 : Hid (Only w.heap.size w2 (w2.setCell ⟨w.heap.size, 3, none⟩ (.slice p' k' c'))) := Lib.hid ((Only.refl _ w2).setCells 3 [.slice p' k' c'])
  have HR2 := Lib.hid hr2
  obtain ⟨f1, f2⟩ := row_loT 11 hr2 rfl rfl
  clear hl hpb hg hO hgw HTS HTS0 HB1 HOW HD hr2
  go_wp2_with fail
  clear f1 f2 hfz kc2
  generalize w2.setCell ⟨w.heap.size, 3, none⟩ (.slice p' k' c') = w3 at *
  have HLL := Lib.hid (HLL.out.keep HO3.out.size (fun b hb hl => HO3.out.block b hl (HPB.out b hb)))
  have HTS3 := Lib.hid (HTS2.out.only (Off.of_old HTSO.out (Nat.le_refl _)) HO3.out)
  have HB3 := Lib.hid (Only.below HB2.out (Nat.le_refl _) HB2.out.size HO3.out)
  clear HO3 HB2 HTS2 HR0
  refine (dstands_any ⟨t.num, t.loc, t.iss, Dk.left gone t.cs, t.ts, t.prev, t.org, t.fst, t.vou, t.posts, t.hs⟩ ⟨p', k', c'⟩ x h w3 HLL.out).mono ?_
  rintro e w4 ⟨rfl, hb4⟩
  obtain ⟨q, hq⟩ : ∃ q, Dk.standsB (Dk.left gone t.cs) = q := ⟨_, rfl⟩
  simp only [hq]
  have HQ := Lib.hid hq
  have HR2 := Lib.hid ((hb4.block _ (block_lt HR2.out)).trans HR2.out)
  have HTS4 := Lib.hid (HTS3.out.below hb4)
  have HB4 := Lib.hid (HB3.out.trans (hb4.mono HB3.out.size))
  clear hq hb4 HTS3 HB3 HLL
  cases q
  · have hR0 : R = Tkt.taxI t.ts := by rw [← HRV.out]; unfold Dk.freeN; rw [if_neg (by rw [HQ.out]; decide)]
    subst hR0
    obtain ⟨f1, f2⟩ := row_loT 11 HR2.out rfl rfl
    go_wp2_with fail
    clear f1 f2
    refine (dtaxes_any ⟨t.num, t.loc, t.iss, Dk.left gone t.cs, t.ts, t.prev, t.org, t.fst, t.vou, t.posts, t.hs⟩ ⟨p', k', c'⟩ x h w4 HTS4.out.ts HBB.out HK.out).mono ?_
    rintro e w5 ⟨rfl, hb5⟩
    have HB5 := Lib.hid (HB4.out.trans (hb5.mono HB4.out.size))
    clear hb5
    go_wp2
    go_ret
    exact ⟨rfl, HB5.out⟩
  · have hR0 : R = 0 := by rw [← HRV.out]; unfold Dk.freeN; rw [if_pos HQ.out]
    subst hR0
    go_wp2
    go_ret
    exact ⟨rfl, HB4.out⟩
end Go.Proofs.Ytadabjkhiaidcaa
