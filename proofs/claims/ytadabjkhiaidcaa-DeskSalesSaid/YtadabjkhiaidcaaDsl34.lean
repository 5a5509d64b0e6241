/- Contract of the reference 15: Numbers. Contracts: worth of the reference 15; first of the law 15. Lists of tickets in memory; the law's same (15). Tools for a sale: slice expressions of coupons; rows of tickets that are appended. Steps of a ticket handed in as a list; a ticket in memory beside a box that is written. -/
import Derived.Test.YtadabjkhiaidcaaDsl33
import Derived.Test.YtadabjkhiaidcaaDsl21
import Derived.Test.YtadabjkhiaidcaaDsl5
import Derived.Test.YtadabjkhiaidcaaDsl18
import Derived.Test.YtadabjkhiaidcaaDsl12
import Derived.Test.YtadabjkhiaidcaaDsl24

section
set_option linter.unusedVariables false
set_option linter.unusedSimpArgs false
namespace Go.Proofs.Ytadabjkhiaidcaa
open Go.ChangeShapes Go.WideShapes Go.ChangeAt Go.RowKit Go.Deep

set_option maxRecDepth 4000 in
set_option maxHeartbeats 4000000 in
theorem rnumbers_any (l : List Int) (p : Option Addr) (n cap : Nat) (w : World) (hl : LS u64C 1 w (.slice p n cap) l) (hu : ∀ m ∈ l, U64 m) : Calls Try.prog 34 #[.slice p n cap] w fun e w' => e = .returned (.bool (Dk.numsB l)) ∧ Below w.heap.size w w' := by
  have HUU := Lib.hid hu
  clear hu
  have HLS := Lib.hid hl
  have HNL := Lib.hid hl.length.1
  have hn : n ≤ 9223372036854775807 := by have h1 := hl.length; unfold maxLen at h1; omega
  clear hl
  have HCK : Hid (∀ (m : Int), U64 m → ∀ W, Calls Try.prog 65 #[.int .u64 m] W fun e w' => e = .returned (.bool (Tkt.numB m)) ∧ Below W.heap.size W w') := Lib.hid (fun m hm W => rnumbered_any m hm W)
  have HCR : Hid (∀ (m : Int), U64 m → ∀ W, Calls Try.prog 66 #[.int .u64 m] W fun e w' => e = .returned (.int .i64 (Num.carr m)) ∧ Below W.heap.size W w') := Lib.hid (fun m hm W => rcarrier_any m hm W)
  obtain ⟨R, hR⟩ : ∃ R, Dk.numsB l = R := ⟨_, rfl⟩
  rw [hR]
  have HRV := Lib.hid hR
  clear hR
  go_enter Try.func34, Try.ntmps34
  go_wp2_with fail
  go_loopw [3] (fun i wr => ∃ k : Nat, k ≤ n ∧ i = .int .i64 k ∧ R = Dk.numsGo (Num.carr (l.headD 0)) (l.take k) (l.drop k) ∧ Below w.heap.size w wr) (fun i _ => n - (intOf i).toNat)
  case atStart => exact ⟨0, Nat.zero_le _, rfl, HRV.out.symm, Below.refl _ _⟩
  case round =>
    obtain ⟨k, hk, rfl, hg, hb⟩ := hrel
    have HB := Lib.hid hb; have HG := Lib.hid hg
    clear hb hg
    by_cases hlt : k < n
    · obtain ⟨y, hy⟩ : ∃ y, l[k]? = some y := ⟨_, List.getElem?_eq_getElem (by have := HNL.out; omega)⟩
      have HY := Lib.hid hy
      obtain ⟨z, hz⟩ : ∃ z, l[0]? = some z := ⟨_, List.getElem?_eq_getElem (by have := HNL.out; omega)⟩
      have HZ := Lib.hid hz
      have HZ2 : Hid (l.headD 0 = z) := Lib.hid (by cases l with | nil => cases hz | cons a r => exact Option.some.inj hz)
      obtain ⟨eb, ef, hp, hbl, hr⟩ := (HLS.out.below HB.out).at hy
      obtain ⟨eb2, ef2, hp2, -, hr2⟩ := (HLS.out.below HB.out).at hz
      subst hp
      injection hp2 with hp2
      injection hp2 with hp2 hp3 _
      subst hp2 hp3
      have hc : wr.cell? ⟨eb, ef + k, none⟩ = some (.int .u64 y) := by have := hr 0 _ rfl; rwa [Nat.mul_one] at this
      have hc0 : wr.cell? ⟨eb, ef, none⟩ = some (.int .u64 z) := by have := hr2 0 _ rfl; simpa using this
      have HC := Lib.hid hc
      have hlb : eb < wr.heap.size := hbl
      have HLB := Lib.hid hlb
      have hyu := HUU.out y (List.mem_of_getElem? hy)
      have hzu := HUU.out z (List.mem_of_getElem? hz)
      have HKY := Lib.hid (HCK.out y hyu)
      have HCY := Lib.hid (HCR.out y hyu)
      have HCZ := Lib.hid (HCR.out z hzu)
      clear hr hr2 hy hz hyu hzu hbl
      have HG2 : Hid (R = ((decide (Num.check y = 0) && decide (Num.carr y = Num.carr z) && !(l.take k).contains y) && Dk.numsGo (Num.carr (l.headD 0)) (l.take (k + 1)) (l.drop (k + 1)))) := Lib.hid (by rw [HG.out, Dk.drop_at HY.out, Tkt.take_snocT HY.out, HZ2.out]; rfl)
      obtain ⟨p1, h1⟩ : ∃ p, Tkt.numB y = p := ⟨_, rfl⟩
      obtain ⟨p2, h2⟩ : ∃ p, (Num.carr y == Num.carr z) = p := ⟨_, rfl⟩
      obtain ⟨p3, h3⟩ : ∃ p, (l.take k).contains y = p := ⟨_, rfl⟩
      have HP3 := Lib.hid h3
      rw [h1] at HKY
      have HG3 : Hid (R = ((p1 && p2 && !p3) && Dk.numsGo (Num.carr (l.headD 0)) (l.take (k + 1)) (l.drop (k + 1)))) := Lib.hid (by rw [HG2.out, h3, ← h1, ← h2]; rfl)
      clear h3 h1
      have hn2 : (Num.carr y != Num.carr z) = !p2 := by rw [← h2]; rfl
      clear h2
      generalize Num.carr y = ry at *
      generalize Num.carr z = rz at *
      go_upto_region 4 with fail
      have hL := @Later.cell
      cases p1
      · obtain rfl : R = false := by rw [HG3.out]; rfl
        refine wp_region_later (by kernel_rfl) (by kernel_rfl) ?_
        repeat (go_big_quiet_step (first | (go_at_call 65; with_reducible exact later_call (HKY.out _)) | (go_at_call 66; with_reducible exact later_call (HCY.out _)) | (go_at_call 66; with_reducible exact later_call (HCZ.out _))))
        refine wpQuiet_nil ?_
        rintro wz ⟨u', rfl⟩
        have HC6 : Hid (u'.val.cell? ⟨eb, ef + k, none⟩ = some (.int .u64 y)) := Lib.hid ((u'.cell eb (ef + k) HLB.out).trans HC.out)
        have HLB6 : Hid (eb < u'.val.heap.size) := Lib.hid (Nat.lt_of_lt_of_le HLB.out u'.prop.size)
        have HB := Lib.hid (HB.out.trans (u'.prop.mono HB.out.size))
        generalize u'.val = w6 at *
        clear hL hc hc0 hlb
        go_wp2
        go_ret
        exact ⟨rfl, HB.out⟩
      · cases p2
        · obtain rfl : R = false := by rw [HG3.out]; rfl
          refine wp_region_later (by kernel_rfl) (by kernel_rfl) ?_
          repeat (go_big_quiet_step (first | (go_at_call 65; with_reducible exact later_call (HKY.out _)) | (go_at_call 66; with_reducible exact later_call (HCY.out _)) | (go_at_call 66; with_reducible exact later_call (HCZ.out _))))
          refine wpQuiet_nil ?_
          rintro wz ⟨u', rfl⟩
          have HC6 : Hid (u'.val.cell? ⟨eb, ef + k, none⟩ = some (.int .u64 y)) := Lib.hid ((u'.cell eb (ef + k) HLB.out).trans HC.out)
          have HLB6 : Hid (eb < u'.val.heap.size) := Lib.hid (Nat.lt_of_lt_of_le HLB.out u'.prop.size)
          have HB := Lib.hid (HB.out.trans (u'.prop.mono HB.out.size))
          generalize u'.val = w6 at *
          clear hL hc hc0 hlb
          go_wp2
          go_ret
          exact ⟨rfl, HB.out⟩
        · have HG4 : Hid (R = (!p3 && Dk.numsGo (Num.carr (l.headD 0)) (l.take (k + 1)) (l.drop (k + 1)))) := Lib.hid (by rw [HG3.out]; rfl)
          refine wp_region_later (by kernel_rfl) (by kernel_rfl) ?_
          repeat (go_big_quiet_step (first | (go_at_call 65; with_reducible exact later_call (HKY.out _)) | (go_at_call 66; with_reducible exact later_call (HCY.out _)) | (go_at_call 66; with_reducible exact later_call (HCZ.out _))))
          refine wpQuiet_nil ?_
          rintro wz ⟨u', rfl⟩
          have HC6 : Hid (u'.val.cell? ⟨eb, ef + k, none⟩ = some (.int .u64 y)) := Lib.hid ((u'.cell eb (ef + k) HLB.out).trans HC.out)
          have HLB6 : Hid (eb < u'.val.heap.size) := Lib.hid (Nat.lt_of_lt_of_le HLB.out u'.prop.size)
          have HB := Lib.hid (HB.out.trans (u'.prop.mono HB.out.size))
          generalize u'.val = w6 at *
          clear hL hc hc0 hlb
          go_wp2_with fail
          go_loopw [4] (fun i wr => ∃ j : Nat, j ≤ k ∧ i = .int .i64 j ∧ (∀ x ∈ (l.take k).take j, x ≠ y) ∧ Below w6.heap.size w6 wr) (fun i _ => k - (intOf i).toNat)
          case atStart => exact ⟨0, Nat.zero_le _, rfl, by simp, Below.refl _ _⟩
          case round =>
            obtain ⟨j, hj, rfl, hno, hb6⟩ := hrel
            have HNO := Lib.hid hno; have HB6 := Lib.hid hb6
            clear hno hb6
            by_cases hjk : j < k
            · obtain ⟨x, hx⟩ : ∃ x, (l.take k)[j]? = some x := ⟨_, List.getElem?_eq_getElem (by rw [List.length_take]; have := HNL.out; omega)⟩
              have HX := Lib.hid hx
              have hx2 : l[j]? = some x := by rw [List.getElem?_take_of_lt hjk] at hx; exact hx
              obtain ⟨eb3, ef3, hp3, -, hr3⟩ := (HLS.out.below (HB.out.trans (HB6.out.mono HB.out.size))).at hx2
              injection hp3 with hp3
              injection hp3 with hp3 hp4 _
              subst hp3 hp4
              have hcj : wr.cell? ⟨eb, ef + j, none⟩ = some (.int .u64 x) := by have := hr3 0 _ rfl; rwa [Nat.mul_one] at this
              have hck : wr.cell? ⟨eb, ef + k, none⟩ = some (.int .u64 y) := (HB6.out.cell (p := ⟨eb, ef + k, none⟩) HLB6.out).trans HC6.out
              have hlb : eb < wr.heap.size := Nat.lt_of_lt_of_le HLB6.out HB6.out.size
              clear hr3 hx hx2
              go_upto_region 9 with fail
              have hL := @Later.cell
              by_cases he : x = y
              · have heb : (x == y) = true := by simpa using he
                obtain rfl : R = false := by rw [HG4.out, ← HP3.out, show (l.take k).contains y = true by have := List.mem_of_getElem? HX.out; rw [he] at this; simpa using this]; rfl
                clear he
                refine wp_region_later (by kernel_rfl) (by kernel_rfl) ?_
                repeat (go_big_quiet_step (fail))
                refine wpQuiet_nil ?_
                rintro wz ⟨u', rfl⟩
                have HB7 := Lib.hid (HB6.out.trans (u'.prop.mono HB6.out.size))
                generalize u'.val = w8 at *
                clear hL hcj hck hlb
                go_wp2
                go_ret
                exact ⟨rfl, HB.out.trans (HB7.out.mono HB.out.size)⟩
              · have heb : (x == y) = false := by simpa using he
                have HE := Lib.hid he
                clear he
                refine wp_region_later (by kernel_rfl) (by kernel_rfl) ?_
                repeat (go_big_quiet_step (fail))
                refine wpQuiet_nil ?_
                rintro wz ⟨u', rfl⟩
                have HB7 := Lib.hid (HB6.out.trans (u'.prop.mono HB6.out.size))
                generalize u'.val = w8 at *
                clear hL hcj hck hlb
                go_wp2
                go_roundw
                case rel => exact ⟨j + 1, by omega, by go_num, take_none HNO.out HX.out (fun h => HE.out h), HB7.out⟩
                case measure => simp [intOf]; omega
            · obtain rfl : j = k := by omega
              have HG5 : Hid (R = Dk.numsGo (Num.carr (l.headD 0)) (l.take (j + 1)) (l.drop (j + 1))) := Lib.hid (by rw [HG4.out, ← HP3.out, has_none (by have := HNO.out; rwa [List.take_of_length_le (by rw [List.length_take]; omega)] at this)]; rfl)
              go_wp2
              go_roundw
              case rel => exact ⟨j + 1, by omega, by go_num, HG5.out, HB.out.trans (HB6.out.mono HB.out.size)⟩
              case measure => simp [intOf]; omega
    · obtain rfl : k = n := by omega
      obtain rfl : R = true := by rw [HG.out, List.drop_of_length_le (by have := HNL.out; omega)]; rfl
      go_wp2
      go_ret
      exact ⟨rfl, HB.out⟩

end Go.Proofs.Ytadabjkhiaidcaa
end

section
set_option linter.unusedVariables false
set_option linter.unusedSimpArgs false
namespace Go.Proofs.Ytadabjkhiaidcaa
open Go.ChangeShapes Go.WideShapes Go.ChangeAt Go.RowKit Go.Deep

set_option maxRecDepth 4000 in
set_option maxHeartbeats 4000000 in
theorem rworth15_any (t : Tk) (c x h : Sl) (of : List Int) (po : Option Addr) (no co : Nat) (w : World) (hl : LS Cpn.cells 6 w (.slice c.p c.n c.c) t.cs) (hb : ∀ y ∈ t.cs, 0 ≤ y.va ∧ y.va ≤ 1000000000000) (hk : t.cs.length ≤ 1000) (ho : LS stC 1 w (.slice po no co) of) : Calls Try.prog 37 #[.agg #[.int .u64 t.num, .string t.loc, .int .i64 t.iss, .slice c.p c.n c.c, .slice x.p x.n x.c, .int .u64 t.prev, .int .u64 t.org, .int .u64 t.fst, .int .i64 t.vou, .int .i64 t.posts, .slice h.p h.n h.c], .slice po no co] w fun e w' => e = .returned (.int .i64 (Dk.valN of t.cs)) ∧ Below w.heap.size w w' := by
  obtain ⟨p, n, cap⟩ := c
  simp only at *
  obtain ⟨l, hl0⟩ : ∃ l, t.cs = l := ⟨_, rfl⟩
  rw [hl0] at hl hb hk
  rw [hl0]
  clear hl0
  have HK : Hid (n ≤ 1000) := Lib.hid (by have := hl.length.1; omega)
  have HBD := Lib.hid hb
  have HOF := Lib.hid ho
  clear hb hk ho
  have HLS := Lib.hid hl
  have HNL := Lib.hid hl.length.1
  have hn : n ≤ 9223372036854775807 := by have h1 := hl.length; unfold maxLen at h1; omega
  clear hl
  have HB0 := Lib.hid ((Below.refl w.heap.size w).alloc (Nat.le_refl _) (.cells #[.int .u64 t.num, .string t.loc, .int .i64 t.iss, .slice p n cap, .slice x.p x.n x.c, .int .u64 t.prev, .int .u64 t.org, .int .u64 t.fst, .int .i64 t.vou, .int .i64 t.posts, .slice h.p h.n h.c] 45 (0, 0)))
  have HR0 := Lib.hid (new_rowW w (.cells #[.int .u64 t.num, .string t.loc, .int .i64 t.iss, .slice p n cap, .slice x.p x.n x.c, .int .u64 t.prev, .int .u64 t.org, .int .u64 t.fst, .int .i64 t.vou, .int .i64 t.posts, .slice h.p h.n h.c] 45 (0, 0)) _ rfl)
  obtain ⟨R, hR⟩ : ∃ R, Dk.valN of l = R := ⟨_, rfl⟩
  rw [hR]
  have HRV := Lib.hid hR
  clear hR
  go_enter Try.func37, Try.ntmps37
  go_wp2_with fail
  go_loopw [5, 6] (fun sm i wr => ∃ k : Nat, k ≤ n ∧ i = .int .i64 k ∧ sm = .int .i64 (Dk.valN of (l.take k)) ∧ Below w.heap.size w wr ∧ wr.heap[w.heap.size]? = some (.cells #[.int .u64 t.num, .string t.loc, .int .i64 t.iss, .slice p n cap, .slice x.p x.n x.c, .int .u64 t.prev, .int .u64 t.org, .int .u64 t.fst, .int .i64 t.vou, .int .i64 t.posts, .slice h.p h.n h.c] 45 (0, 0))) (fun _ i _ => n - (intOf i).toNat)
  case atStart => exact ⟨0, Nat.zero_le _, rfl, rfl, HB0.out, HR0.out⟩
  case round =>
    obtain ⟨k, hk, rfl, rfl, hb, hrow⟩ := hrel
    have HB := Lib.hid hb; have HR := Lib.hid hrow
    clear hb hrow HB0 HR0
    have hcs := fun j => cell_of_row _ w.heap.size j _ _ _ HR.out
    by_cases hlt : k < n
    · generalize hS : Dk.valN of (l.take k) = S at *
      obtain ⟨y, hy⟩ : ∃ y, l[k]? = some y := ⟨_, List.getElem?_eq_getElem (by have := HNL.out; omega)⟩
      have HY := Lib.hid hy
      obtain ⟨eb, ef, hp, -, hr⟩ := (HLS.out.below HB.out).at hy
      subst hp
      have hst : wr.cell? ⟨eb, ef + k * 6 + 3, none⟩ = some (.int .i64 y.st) := hr 3 _ rfl
      have hva : wr.cell? ⟨eb, ef + k * 6 + 2, none⟩ = some (.int .i64 y.va) := hr 2 _ rfl
      clear hr hy
      have hbs := Dk.valN_bound of (l.take k) (fun y hy => HBD.out y (List.mem_of_mem_take hy))
      rw [hS, List.length_take] at hbs
      have hS0 : 0 ≤ S := by omega
      have hS1 : S ≤ 1000000000000000 := by have := HK.out; omega
      have hv := HBD.out y (List.mem_of_getElem? HY.out)
      have hv0 := hv.1
      have hv1 := hv.2
      have HSE := Lib.hid hS
      clear hv hbs hS
      obtain ⟨q, hq⟩ : ∃ q, of.contains y.st = q := ⟨_, rfl⟩
      have HCT := Lib.hid (rhas_any of y.st po no co wr (HOF.out.below HB.out))
      rw [hq] at HCT
      have HQ := Lib.hid hq
      clear hq
      cases q
      · go_wp2_with (go_at_call 67; refine HCT.out.mono ?_; rintro e wn ⟨rfl, rfl⟩)
        go_roundw
        case rel => exact ⟨k + 1, by omega, by go_num, by rw [Dk.valN_snoc of HY.out, HSE.out, HQ.out]; simp, HB.out, HR.out⟩
        case measure => simp [intOf]; omega
      · go_wp2_with (go_at_call 67; refine HCT.out.mono ?_; rintro e wn ⟨rfl, rfl⟩)
        go_roundw
        case rel => exact ⟨k + 1, by omega, by go_num, by rw [Dk.valN_snoc of HY.out, HSE.out, HQ.out]; simp, HB.out, HR.out⟩
        case measure => simp [intOf]; omega
    · obtain rfl : k = n := by omega
      have HGE : Hid (Dk.valN of (l.take k) = R) := Lib.hid (by rw [← HRV.out, List.take_of_length_le (by have := HNL.out; omega)])
      generalize Dk.valN of (l.take k) = S at *
      go_wp2
      go_ret
      exact ⟨ret_intT HGE.out, HB.out⟩


set_option maxRecDepth 4000 in
set_option maxHeartbeats 4000000 in
theorem first15_any (s : Int) (w : World) : Calls Try.prog 13 #[.int .i64 s] w fun e w' => e = .returned (.int .u64 (Num.mkN 123 s)) ∧ Below w.heap.size w w' := by
  have HP := Lib.hid (rMake_any 123 s w)
  go_enter Try.func13, Try.ntmps13
  go_wp2_with fail
  refine HP.out.mono ?_
  rintro e w1 ⟨rfl, hb⟩
  have HB := Lib.hid hb
  clear hb
  go_wp2
  go_ret
  exact ⟨rfl, HB.out⟩

end Go.Proofs.Ytadabjkhiaidcaa
end

section
set_option linter.unusedVariables false
set_option linter.unusedSimpArgs false
namespace Go.Proofs.Ytadabjkhiaidcaa
open Go.ChangeShapes Go.WideShapes Go.ChangeAt Go.RowKit Go.Deep

/-- a ticket as it lies in a row -/
structure Tkr where
  t : Tk
  c : Sl
  x : Sl
  h : Sl
def Tkr.cells (y : Tkr) : List Value := [.int .u64 y.t.num, .string y.t.loc, .int .i64 y.t.iss, .slice y.c.p y.c.n y.c.c, .slice y.x.p y.x.n y.x.c, .int .u64 y.t.prev, .int .u64 y.t.org, .int .u64 y.t.fst, .int .i64 y.t.vou, .int .i64 y.t.posts, .slice y.h.p y.h.n y.h.c]
theorem Tkr.cells_length (y : Tkr) : y.cells.length = 11 := rfl
/-- a slice of tickets -/
def TL (w : World) (v : Value) (l : List Tkr) : Prop := LS Tkr.cells 11 w v l ∧ ∀ y ∈ l, TS w y.t y.c y.x y.h
theorem TL.below {w w' : World} {v : Value} {l : List Tkr} (h : TL w v l) (hb : Below w.heap.size w w') : TL w' v l := ⟨h.1.below hb, fun y hy => (h.2 y hy).below hb⟩
attribute [local go_sem ↓] Tk_execLoad Tk_execStore

attribute [local go_sem] Tk_load Tk_store loL_drew okL_drew there_sc World.there_drew

set_option maxRecDepth 4000 in
set_option maxHeartbeats 4000000 in
theorem same15_any (la lb : List Tkr) (p q : Option Addr) (n m cap cap2 : Nat) (w : World) (ha : TL w (.slice p n cap) la) (hb : TL w (.slice q m cap2) lb) (he : la.map Tkr.t = lb.map Tkr.t) : Calls Try.prog 9 #[.slice p n cap, .slice q m cap2] w fun e w' => e = .returned (.bool true) ∧ Below w.heap.size w w' := by
  have HA := Lib.hid ha
  have HBL := Lib.hid hb
  have HEQ := Lib.hid he
  have HNA := Lib.hid ha.1.length.1
  have HNB := Lib.hid hb.1.length.1
  have hn : n ≤ 9223372036854775807 := by have h1 := ha.1.length; unfold maxLen at h1; omega
  have hmn : m = n := by have h1 := congrArg List.length he; rw [List.length_map, List.length_map] at h1; have := ha.1.length; have := hb.1.length; omega
  subst hmn
  clear ha hb he
  go_enter Try.func9, Try.ntmps9
  go_wp2_with fail
  go_loopw [5] (fun i wr => ∃ k : Nat, k ≤ m ∧ i = .int .i64 k ∧ Below w.heap.size w wr) (fun i _ => m - (intOf i).toNat)
  case atStart => exact ⟨0, Nat.zero_le _, rfl, Below.refl _ _⟩
  case round =>
    obtain ⟨k, hk, rfl, hb⟩ := hrel
    have HB := Lib.hid hb
    clear hb
    by_cases hlt : k < m
    · obtain ⟨y, hy⟩ : ∃ y, la[k]? = some y := ⟨_, List.getElem?_eq_getElem (by have := HNA.out; omega)⟩
      obtain ⟨z, hz⟩ : ∃ z, lb[k]? = some z := ⟨_, List.getElem?_eq_getElem (by have := HNB.out; omega)⟩
      have HY := Lib.hid hy; have HZ := Lib.hid hz
      have HYZ : Hid (y.t = z.t) := Lib.hid (by have h1 := congrArg (fun l => l[k]?) HEQ.out; simp only [List.getElem?_map, hy, hz, Option.map_some] at h1; exact Option.some.inj h1)
      obtain ⟨eb, ef, hp, hbl, hr⟩ := (HA.out.1.below HB.out).at hy
      obtain ⟨eb2, ef2, hp2, hbl2, hr2⟩ := (HBL.out.1.below HB.out).at hz
      subst hp hp2
      clear hr hr2 hy hz hbl hbl2
      have HCC : Hid (∀ u : Later wr, (loL 11 u.val eb (ef + k * 11) = [.int .u64 y.t.num, .string y.t.loc, .int .i64 y.t.iss, .slice y.c.p y.c.n y.c.c, .slice y.x.p y.x.n y.x.c, .int .u64 y.t.prev, .int .u64 y.t.org, .int .u64 y.t.fst, .int .i64 y.t.vou, .int .i64 y.t.posts, .slice y.h.p y.h.n y.h.c] ∧ okL 11 u.val eb (ef + k * 11)) ∧ loL 11 u.val eb2 (ef2 + k * 11) = [.int .u64 z.t.num, .string z.t.loc, .int .i64 z.t.iss, .slice z.c.p z.c.n z.c.c, .slice z.x.p z.x.n z.x.c, .int .u64 z.t.prev, .int .u64 z.t.org, .int .u64 z.t.fst, .int .i64 z.t.vou, .int .i64 z.t.posts, .slice z.h.p z.h.n z.h.c] ∧ okL 11 u.val eb2 (ef2 + k * 11)) := Lib.hid (fun u => by
        obtain ⟨b1, o1, e1, -, r1⟩ := (HA.out.1.below (HB.out.trans (u.prop.mono HB.out.size))).at HY.out
        obtain ⟨b2, o2, e2, -, r2⟩ := (HBL.out.1.below (HB.out.trans (u.prop.mono HB.out.size))).at HZ.out
        injection e1 with e1; injection e1 with e3 e4; injection e2 with e2; injection e2 with e5 e6; subst e3 e4 e5 e6
        exact ⟨loL_of r1 (Tkr.cells_length y), loL_of r2 (Tkr.cells_length z)⟩)
      have k0 := fun u => (HCC.out u).1.1; have k1 := fun u => (HCC.out u).1.2; have k2 := fun u => (HCC.out u).2.1; have k3 := fun u => (HCC.out u).2.2
      have HSA := Lib.hid (fun u : Later wr => rsame_any y.t z.t y.c y.x y.h z.c z.x z.h u.val ((HA.out.2 y (List.mem_of_getElem? HY.out)).below (HB.out.trans (u.prop.mono HB.out.size))) ((HBL.out.2 z (List.mem_of_getElem? HZ.out)).below (HB.out.trans (u.prop.mono HB.out.size))) true (by rw [HYZ.out]; simp))
      go_upto_region 6 with fail
      refine wp_region_later (by kernel_rfl) (by kernel_rfl) ?_
      repeat (go_big_quiet_step ((go_at_call 39; exact later_call (HSA.out _))))
      refine wpQuiet_nil ?_
      rintro w9 ⟨u, rfl⟩
      have HBU := Lib.hid (HB.out.trans (u.prop.mono HB.out.size))
      clear k0 k1 k2 k3
      generalize u.val = w9 at *
      go_wp2_with fail
      go_roundw
      case rel => exact ⟨k + 1, by omega, by go_num, HBU.out⟩
      case measure => simp [intOf]; omega
    · obtain rfl : k = m := by omega
      go_wp2
      go_ret
      exact ⟨rfl, HB.out⟩

end Go.Proofs.Ytadabjkhiaidcaa
end

section
set_option linter.unusedVariables false
set_option linter.unusedSimpArgs false
namespace Go.Proofs.Ytadabjkhiaidcaa
open Go.ChangeShapes Go.WideShapes Go.ChangeAt Go.RowKit Go.Deep

theorem Tkr.cells_one (x : Tkr) : ∀ v ∈ x.cells, v.oneCell' = true := by
  intro v hv
  unfold Tkr.cells at hv
  simp only [List.mem_cons, List.not_mem_nil, or_false] at hv
  rcases hv with rfl | rfl | rfl | rfl | rfl | rfl | rfl | rfl | rfl | rfl | rfl <;> rfl
theorem elemTk : Elem Try.prog Tkr.cells 11 144 27 45 := Elem.of Try.underlying27 (by kernel_rfl) (by decide) (by decide) Tkr.cells_length Tkr.cells_one
/-- x[:m:m] -/
theorem run_cutC (q : Option Addr) (n cap k : Nat) (h : k ≤ cap) (W : World) : (Instr.slice 22 (.slice q n cap) none (some (.int .i64 (k : Int))) (some (.int .i64 (k : Int)))).run Try.prog W = .ok (.slice q k k) W := by
  have ht : Try.prog.underlying 22 = some (.slice (Try.prog.elem 22)) := by kernel_rfl
  have hz : ∀ W : World, (sizeOf (Try.prog.elem 22)).run Try.prog W = .ok 6 W := fun W => by
    rw [show Try.prog.elem 22 = 37 from by kernel_rfl]; simp [go_sem]
  rw [run_slice_hm W _ _ _ _ ht _ _ _ _ (by omega) (by omega) (by omega), hz]
  cases q <;> simp [sliced, Result.andThen, Addr.add]
/-- x[m:] -/
theorem run_tailC (b o n cap k : Nat) (h : k ≤ n) (hc : n ≤ cap) (W : World) : (Instr.slice 22 (.slice (some ⟨b, o, none⟩) n cap) (some (.int .i64 (k : Int))) none none).run Try.prog W = .ok (.slice (some ⟨b, if cap = k then o else o + k * 6, none⟩) (n - k) (cap - k)) W := by
  have ht : Try.prog.underlying 22 = some (.slice (Try.prog.elem 22)) := by kernel_rfl
  have hz : ∀ W : World, (sizeOf (Try.prog.elem 22)).run Try.prog W = .ok 6 W := fun W => by
    rw [show Try.prog.elem 22 = 37 from by kernel_rfl]; simp [go_sem]
  rw [run_slice_l W _ _ _ _ ht _ _ (by omega) (by omega), hz]
  by_cases hck : cap = k
  · simp [sliced, Result.andThen, Addr.add, hck]
  · by_cases hk0 : k = 0
    · subst hk0; simp [sliced, Result.andThen, Addr.add]
    · have h6 : ¬ k * 6 = 0 := by omega
      simp [sliced, Result.andThen, Addr.add, hck, h6]
theorem LS.tailC {α : Type} {enc : α → List Value} {w : World} {b o n cap k : Nat} {l : List α} (h : LS enc 6 w (.slice (some ⟨b, o, none⟩) n cap) l) (hk : k ≤ n) : LS enc 6 w (.slice (some ⟨b, if cap = k then o else o + k * 6, none⟩) (n - k) (cap - k)) (l.drop k) := by
  by_cases hck : cap = k
  · have hl := h.length
    have hnk : n = k := by omega
    have he : l.drop k = [] := List.drop_of_length_le (by omega)
    rw [he]
    refine ⟨_, cap - k, by rw [show n - k = ([] : List α).length by simp; omega], by simp, by omega, fun hne => absurd rfl hne⟩
  · rw [if_neg hck]; exact h.drop hk
/-- a slice cut short, its room too -/
theorem LS.cutm {α : Type} {enc : α → List Value} {e : Nat} {w : World} {p : Option Addr} {n cap k : Nat} {l : List α} (h : LS enc e w (.slice p n cap) l) (hk : k ≤ n) : LS enc e w (.slice p k k) (l.take k) := by
  have h1 := h.take hk
  obtain ⟨p', cap', e1, h2, h3, h4⟩ := h1
  injection e1 with e1 e2 e3
  subst e1
  have hl : (l.take k).length = k := e2.symm
  refine ⟨p, k, by rw [hl], by omega, by omega, h4⟩
end Go.Proofs.Ytadabjkhiaidcaa
end

section
set_option linter.unusedVariables false
set_option linter.unusedSimpArgs false
namespace Go.Proofs.Ytadabjkhiaidcaa
open Go.ChangeShapes Go.WideShapes Go.ChangeAt Go.RowKit Go.Deep

structure Stp where
  co : Int
  on : Int
  tq : Int
  wi : Int
def Stp.cells (s : Stp) : List Value := [.int .i64 s.co, .int .i64 s.on, .int .i64 s.tq, .int .u64 s.wi]
def Stp.wf (s : Stp) : Prop := I64 s.co ∧ I64 s.on ∧ U64 s.wi
section
variable {H : Type} {enc : TypeId × Value → H} {W : World} {held : Bool}
end
section
variable {α : Type} {enc : α → List Value} {n : Nat}
theorem LS.only {w w' : World} {v : Value} {l : List α} {g : Nat} (h : LS enc n w v l) (hne : l ≠ [] → ∀ b, v.ownBlock = some b → b ≠ g) (hw : Only g w w') : LS enc n w' v l := by
  by_cases hl : l = []
  · subst hl
    obtain ⟨p, cap, rfl, h1, h2, -⟩ := h
    exact ⟨p, cap, rfl, h1, h2, fun h => absurd rfl h⟩
  · exact h.keep hw.size (fun b hb hlt => hw.block b hlt (hne hl b hb))
theorem LS.old {w : World} {v : Value} {l : List α} (h : LS enc n w v l) {g : Nat} (hg : w.heap.size ≤ g) : l ≠ [] → ∀ b, v.ownBlock = some b → b ≠ g := fun hl b hb => by
  obtain ⟨p, cap, rfl, h1, h2, h3⟩ := h
  obtain ⟨b2, o, rfl, hlt, -⟩ := h3 hl
  simp only [Value.ownBlock] at hb
  injection hb with hb
  omega
end
/-- none of a ticket's lists lies in a block -/
structure Off (g : Nat) (t : Tk) (c x h : Sl) : Prop where
  c : t.cs ≠ [] → ∀ b, (Value.slice c.p c.n c.c).ownBlock = some b → b ≠ g
  x : t.ts ≠ [] → ∀ b, (Value.slice x.p x.n x.c).ownBlock = some b → b ≠ g
  h : t.hs ≠ [] → ∀ b, (Value.slice h.p h.n h.c).ownBlock = some b → b ≠ g
theorem TS.only {w w' : World} {t : Tk} {c x h : Sl} {g : Nat} (s : TS w t c x h) (ho : Off g t c x h) (hw : Only g w w') : TS w' t c x h :=
  ⟨s.cs.only ho.c hw, s.ts.only ho.x hw, s.hs.only ho.h hw, s.wf⟩
/-- what was handed in lies below the blocks that are made later -/
theorem Off.of_old {w : World} {t : Tk} {c x h : Sl} {g : Nat} (s : TS w t c x h) (hg : w.heap.size ≤ g) : Off g t c x h := ⟨s.cs.old hg, s.ts.old hg, s.hs.old hg⟩
/-- what lies in blocks from a place on is off a block below it -/
theorem Off.of_own {w : World} {B g : Nat} {t : Tk} {c x h : Sl} {e1 e2 e3 n1 n2 n3 m1 m2 m3 : Nat} {xs ys zs : List Value} (h1 : w.ownsRow B e1 n1 (.slice c.p c.n c.c) m1 xs) (h2 : w.ownsRow B e2 n2 (.slice x.p x.n x.c) m2 ys) (h3 : w.ownsRow B e3 n3 (.slice h.p h.n h.c) m3 zs) (hg : g < B) : Off g t c x h :=
  ⟨fun _ b hb => by have := (recs_base h1 hb).1; omega, fun _ b hb => by have := (recs_base h2 hb).1; omega, fun _ b hb => by have := (recs_base h3 hb).1; omega⟩
end Go.Proofs.Ytadabjkhiaidcaa
end
