/- Do both nets look the same? Are there few acts? Acts handed in. -/
import Derived.Test.YtihilifpadpkbaaNtU
import Derived.Test.YtihilifpadpkbaaNtL
import Derived.Test.YtihilifpadpkbaaNtH
set_option linter.unusedVariables false
set_option linter.unusedSimpArgs false
namespace Go.Proofs.Ytihilifpadpkbaa
open Go.RowKit Nt

section
variable (w : World) (B g r : Nat) (k : Int) (calm : Bool) (v lv av : Value) (all : List Hd)
set_option maxRecDepth 4000 in
set_option maxHeartbeats 4000000 in
theorem same23_any (T : Two w B g r k calm v lv av all) (hk : 1 ≤ k) (hln : all.length ≤ 10000) :
    Calls Try.prog 18 #[.pointer (some ⟨g, 0, none⟩), .pointer (some ⟨r, 0, none⟩)] w fun e w' => e = .returned (.bool true) ∧ Below w.heap.size w w' := by
  have hk0 : 0 < k := by omega
  obtain ⟨lp, lc, elv⟩ := T.rr.l.shape
  obtain ⟨m, hm⟩ : ∃ m, all.length = m := ⟨_, rfl⟩
  have HM := Lib.hid hm
  rw [List.length_map, hm] at elv
  subst elv
  have HLN := Lib.hid hln
  have HTD := Lib.hid (T.below (Below.refl _ _).drew)
  have k0 : w.drew.cell? ⟨r, 0, none⟩ = some (.int .i64 k) := cell_of_row _ r 0 _ _ _ HTD.out.rr.row
  have k1 : w.drew.cell? ⟨r, 1, none⟩ = some (.bool calm) := cell_of_row _ r 1 _ _ _ HTD.out.rr.row
  have k2 : w.drew.cell? ⟨r, 2, none⟩ = some (.slice lp m lc) := cell_of_row _ r 2 _ _ _ HTD.out.rr.row
  clear T hm hln
  go_enter Try.func18, Try.ntmps18
  go_wp2_with fail
  go_region_held3 (fun w' => w'.cell? ⟨r, 0, none⟩ = some (.int .i64 k) ∧ w'.cell? ⟨r, 1, none⟩ = some (.bool calm) ∧ w'.cell? ⟨r, 2, none⟩ = some (.slice lp m lc)) (first | exact ⟨k0, k1, k2⟩ | go_keep) (first
    | (go_at_call 22; refine (nwaiting_any _ B g k calm v all HTD.out.nn hk0 HLN.out).mono ?_; rintro e w1 ⟨q, rfl, ho, hb⟩; obtain ⟨qp, qc, rfl⟩ := rec_form ho; have hb : Below w.heap.size w.drew w1 := hb; have HW1 := Lib.hid (LS.of_own ho Lt.cells_length (by decide)); have HT1 := Lib.hid (Two.below HTD.out hb); have HB1 := Lib.hid ((Below.refl w.heap.size w).drew.trans hb); have k0 : w1.cell? ⟨r, 0, none⟩ = some (.int .i64 k) := cell_of_row _ r 0 _ _ _ HT1.out.rr.row; have k1 : w1.cell? ⟨r, 1, none⟩ = some (.bool calm) := cell_of_row _ r 1 _ _ _ HT1.out.rr.row; have k2 : w1.cell? ⟨r, 2, none⟩ = some (.slice lp m lc) := cell_of_row _ r 2 _ _ _ HT1.out.rr.row; clear ho hb)
    | (go_at_call 26; refine (rSameLt_any (all.map (fun h => h.l)) (all.map (fun h => h.l)) true (by simp) qp lp _ _ qc lc _ HW1.out HT1.out.rr.l).mono ?_; rintro e w2 ⟨rfl, hb⟩; have HT2 := Lib.hid (HT1.out.below hb); have HB2 := Lib.hid (HB1.out.trans (hb.mono HB1.out.size)); have k0 : w2.cell? ⟨r, 0, none⟩ = some (.int .i64 k) := cell_of_row _ r 0 _ _ _ HT2.out.rr.row; have k1 : w2.cell? ⟨r, 1, none⟩ = some (.bool calm) := cell_of_row _ r 1 _ _ _ HT2.out.rr.row; have k2 : w2.cell? ⟨r, 2, none⟩ = some (.slice lp m lc) := cell_of_row _ r 2 _ _ _ HT2.out.rr.row; have HLEN := Lib.hid (nlen_any w2 B g k calm v all HT2.out.nn hk0); rw [HM.out] at HLEN; clear hb)
    | (go_at_call 14; refine HLEN.out.mono ?_; rintro e w3 ⟨rfl, rfl⟩)
    | (go_at_call 25; refine (nhold_any w2 B g k calm v all HT2.out.nn hk0).mono ?_; rintro e w3 ⟨rfl, rfl⟩)
    | (go_at_call 24; refine (niscalm_any w2 B g k calm v all HT2.out.nn hk0).mono ?_; rintro e w3 ⟨rfl, rfl⟩))
  all_goals
    clear k0 k1 k2
    go_wp2
    go_ret
    exact ⟨rfl, HB2.out⟩
end

theorem four_of {α : Type} : ∀ l : List α, l.length = 4 → ∃ a b c d, l = [a, b, c, d]
  | [a, b, c, d], _ => ⟨a, b, c, d, rfl⟩
  | [], h => by simp at h
  | [_], h => by simp at h
  | [_, _], h => by simp at h
  | [_, _, _], h => by simp at h
  | _ :: _ :: _ :: _ :: _ :: _, h => by simp at h
/-- an act as it lies in memory -/
structure Am where
  (a : Ac) (p1 : Option Addr) (n1 c1 : Nat) (p2 : Option Addr) (n2 c2 : Nat)
def Am.cells (x : Am) : List Value := [.int .i64 x.a.kind, .slice x.p1 x.n1 x.c1, .slice x.p2 x.n2 x.c2, .bool x.a.is]
/-- what is known of an act that was handed in -/
structure Am.ok (B : Nat) (w : World) (x : Am) : Prop where
  l : LS Lt.cells 15 w (.slice x.p1 x.n1 x.c1) x.a.ls
  p : LS intC 1 w (.slice x.p2 x.n2 x.c2) x.a.ps
  f : ∀ y ∈ x.a.ls, y.fit
  bl : x.a.ls ≠ [] → ∀ b, (Value.slice x.p1 x.n1 x.c1).ownBlock = some b → b < B
  bp : x.a.ps ≠ [] → ∀ b, (Value.slice x.p2 x.n2 x.c2).ownBlock = some b → b < B
theorem Am.ok.turn {B : Nat} {w w' : World} {x : Am} {S : Nat → Prop} (h : x.ok B w) (ht : Turn S w w') (hS : ∀ i, S i → B ≤ i) : x.ok B w' :=
  ⟨h.l.turnE ht (fun hne b hb e => by have h1 := h.bl hne b hb; have h2 := hS b e; omega), h.p.turnE ht (fun hne b hb e => by have h1 := h.bp hne b hb; have h2 := hS b e; omega), h.f, h.bl, h.bp⟩

set_option maxRecDepth 4000 in
set_option maxHeartbeats 2000000 in
theorem few_any (l : List Am) (most : Int) (bv : Bool) (hbv : bv = true ↔ (∀ x ∈ l, x.n1 ≤ 20 ∧ x.n2 ≤ 100) ∧ (l.length : Int) ≤ most) (p : Option Addr) (n cap : Nat) (w : World) (hs : LS Am.cells 4 w (.slice p n cap) l) (hmx : ∀ x ∈ l, x.n1 ≤ 9223372036854775807 ∧ x.n2 ≤ 9223372036854775807) :
    Calls Try.prog 16 #[.slice p n cap, .int .i64 most] w fun e w' => e = .returned (.bool bv) ∧ Below w.heap.size w w' := by
  have HPS := Lib.hid hs; have HN := Lib.hid hs.length.1
  have hn1 := hs.length.2.1
  have hn2 := hs.length.2.2
  unfold maxLen at hn2
  have HBV := Lib.hid hbv; have HMX := Lib.hid hmx
  clear hs hbv hmx
  go_enter Try.func16, Try.ntmps16
  go_wp2
  go_loopw [5] (fun i wr => ∃ k : Nat, k ≤ n ∧ i = .int .i64 k ∧ (∀ (j : Nat) (x : Am), j < k → l[j]? = some x → x.n1 ≤ 20 ∧ x.n2 ≤ 100) ∧ wr = w) (fun i _ => n - (intOf i).toNat)
  case atStart => exact ⟨0, Nat.zero_le _, rfl, fun j x h => absurd h (Nat.not_lt_zero _), rfl⟩
  case round =>
    obtain ⟨k, hk, rfl, hall, rfl⟩ := hrel
    have HALL := Lib.hid hall
    clear hall
    by_cases hlt : k < n
    · obtain ⟨x, hx⟩ : ∃ x, l[k]? = some x := ⟨_, List.getElem?_eq_getElem (by have := HN.out; omega)⟩
      obtain ⟨bb, o, rfl, hbl, hr⟩ := HPS.out.at hx
      have HX := Lib.hid hx
      have hmx := HMX.out x (List.mem_of_getElem? hx)
      have k1 : wr.cell? ⟨bb, o + k * 4 + 1, none⟩ = some (.slice x.p1 x.n1 x.c1) := hr 1 _ rfl
      have k2 : wr.cell? ⟨bb, o + k * 4 + 2, none⟩ = some (.slice x.p2 x.n2 x.c2) := hr 2 _ rfl
      clear hx hr
      by_cases hg : x.n1 ≤ 20 ∧ x.n2 ≤ 100
      · obtain ⟨g1, g2⟩ := hg
        have i1 : (x.n1 : Int) ≤ 20 := by omega
        have i2 : (x.n2 : Int) ≤ 100 := by omega
        go_wp2
        go_roundw
        case rel => exact ⟨k + 1, by omega, by go_num, fun j y hj hy => by
          by_cases hjk : j = k
          · subst hjk; rw [HX.out] at hy; injection hy with hy; subst hy; exact ⟨g1, g2⟩
          · exact HALL.out j y (by omega) hy, by first | rfl | trivial⟩
        case measure => simp [intOf]; omega
      · have HF : Hid (bv = false) := Lib.hid (by
          cases hb : bv
          · rfl
          · exact absurd ((HBV.out.1 hb).1 x (List.mem_of_getElem? HX.out)) hg)
        by_cases g1 : x.n1 ≤ 20
        · have g2 : 100 < x.n2 := by omega
          have i1 : (x.n1 : Int) ≤ 20 := by omega
          have i2 : (100 : Int) < x.n2 := by omega
          clear hg
          go_wp2
          go_ret
          exact ⟨ret_bool HF.out.symm, Below.refl _ _⟩
        · have i1 : (20 : Int) < x.n1 := by omega
          clear hg
          go_wp2
          go_ret
          exact ⟨ret_bool HF.out.symm, Below.refl _ _⟩
    · obtain rfl : k = n := by omega
      have HE : Hid (bv = decide ((k : Int) ≤ most)) := Lib.hid (by
        rw [Bool.eq_iff_iff, HBV.out, decide_eq_true_iff, HN.out]
        exact ⟨fun h => h.2, fun h => ⟨fun x hx => by
          obtain ⟨i, hi⟩ := List.mem_iff_getElem?.1 hx
          exact HALL.out i x (by have h1 := (List.getElem?_eq_some_iff.1 hi).1; have h2 := HN.out; omega) hi, h⟩⟩)
      go_wp2
      go_ret
      exact ⟨ret_bool HE.out.symm, Below.refl _ _⟩

section
open Go.ChangeShapes Go.WideShapes Go.ChangeAt Go.Deep
variable {H : Type} {enc : TypeId × Value → H} {W : World} {held : Bool}
set_option maxRecDepth 10000 in
theorem open_acts {fuel : Nat} {v : Value} {x : DataW H × List MemPlace} (h : DataW.trod enc Try.prog W 0 (fun _ => true) held fuel 46 [v] = some x) : ∃ l : List Am, LS Am.cells 4 W v l ∧ ∀ y ∈ l, y.ok W.heap.size W := by
  obtain ⟨rows, h1, h2⟩ := open_rows (n := 2) (ls := [.int .i64, .other 22, .other 23, .bool]) Try.underlying46 (by kernel_rfl) (by kernel_rfl) (by decide) h
  have key : ∀ rows : List (List Value), (∀ q ∈ rows, AllOk enc Try.prog W held [.int .i64, .other 22, .other 23, .bool] q) → ∃ l : List Am, rows = l.map Am.cells ∧ ∀ y ∈ l, y.ok W.heap.size W := by
    intro rows
    induction rows with
    | nil => intro _; exact ⟨[], rfl, fun y hy => absurd hy (by simp)⟩
    | cons q rows ih =>
      intro hq
      obtain ⟨l, rfl, hl⟩ := ih (fun y hy => hq y (by simp [hy]))
      have hq0 := hq q (by simp)
      have hlen := hq0.length
      obtain ⟨z, u, t, b, rfl⟩ := four_of q hlen
      · obtain ⟨⟨kind, rfl, _⟩, ⟨m1, x1, hx1⟩, ⟨m2, x2, hx2⟩, ⟨is, rfl⟩, _⟩ := hq0
        obtain ⟨ls, hls, hfit⟩ := open_letters hx1
        obtain ⟨ps, hps, _⟩ := open_int_list hx2
        obtain ⟨p1, c1, rfl⟩ := hls.shape
        obtain ⟨p2, c2, rfl⟩ := hps.shape
        refine ⟨⟨⟨kind, ls, ps, is⟩, p1, ls.length, c1, p2, ps.length, c2⟩ :: l, rfl, fun y hy => ?_⟩
        rcases List.mem_cons.1 hy with rfl | hy
        · refine ⟨hls, hps, hfit, fun hne b hb => ?_, fun hne b hb => ?_⟩
          · obtain ⟨i, hi⟩ := List.exists_mem_of_ne_nil _ hne
            obtain ⟨j, hj⟩ := List.mem_iff_getElem?.1 hi
            obtain ⟨b', o, e, hbl, -⟩ := hls.at hj
            subst e; injection hb with hb; exact hb ▸ hbl
          · obtain ⟨i, hi⟩ := List.exists_mem_of_ne_nil _ hne
            obtain ⟨j, hj⟩ := List.mem_iff_getElem?.1 hi
            obtain ⟨b', o, e, hbl, -⟩ := hps.at hj
            subst e; injection hb with hb; exact hb ▸ hbl
        · exact hl y hy
  obtain ⟨l, rfl, hl⟩ := key rows h2
  exact ⟨l, h1.of_rows, hl⟩
end
end Go.Proofs.Ytihilifpadpkbaa
