/- Contract: the reference's Only (16). -/
import Derived.Test.YtbmphlpmipkpcaaGreatRnm48

set_option linter.unusedVariables false
set_option linter.unusedSimpArgs false
namespace Go.Proofs.YtbmphlpmipkpcaaGreat
open Go.RowKit Go.Deep

namespace Rq
/-- a request's cells with what a letter stands for -/
def setA (x : Rqt) (p q : Option Addr) (n cap m cap2 : Nat) (a : Array Value) (c : UInt8) : Array Value := if c = 75 then (a.setIfInBounds 0 (.string x.key)) else if c = 68 then (a.setIfInBounds 2 (.int .i64 x.d)) else if c = 76 then (a.setIfInBounds 6 (.string x.loc)) else if c = 84 then (a.setIfInBounds 3 (.int .u64 x.tk)) else if c = 78 then (a.setIfInBounds 4 (.int .i64 x.c)) else if c = 83 then (a.setIfInBounds 5 (.int .i64 x.st)) else if c = 65 then (a.setIfInBounds 9 (.int .i64 x.am)) else if c = 74 then (a.setIfInBounds 7 (.slice p n cap)) else if c = 67 then (a.setIfInBounds 7 (.slice p n cap)) else if c = 88 then (a.setIfInBounds 8 (.slice q m cap2)) else if c = 82 then ((a.setIfInBounds 10 (.int .i64 x.fr)).setIfInBounds 11 (.int .i64 x.tt)) else a
def onlyA (x : Rqt) (p q : Option Addr) (n cap m cap2 : Nat) (l : List UInt8) : Array Value := l.foldl (setA x p q n cap m cap2) #[.string ⟨#[]⟩, .int .i64 x.k, .int .i64 0, .int .u64 0, .int .i64 0, .int .i64 0, .string ⟨#[]⟩, .slice none 0 0, .slice none 0 0, .int .i64 0, .int .i64 0, .int .i64 0]
theorem setA_size (x : Rqt) (p q : Option Addr) (n cap m cap2 : Nat) (a : Array Value) (c : UInt8) : (setA x p q n cap m cap2 a c).size = a.size := by
  unfold setA
  repeat' split
  all_goals simp
theorem onlyA_snoc (x : Rqt) (p q : Option Addr) (n cap m cap2 : Nat) (l : List UInt8) (c : UInt8) : onlyA x p q n cap m cap2 (l ++ [c]) = setA x p q n cap m cap2 (onlyA x p q n cap m cap2 l) c := by
  unfold onlyA; rw [List.foldl_append]; rfl
theorem row_mem {k : Int} {c : UInt8} (h : c ∈ rowL k) : c = 75 ∨ c = 68 ∨ c = 76 ∨ c = 84 ∨ c = 78 ∨ c = 83 ∨ c = 65 ∨ c = 74 ∨ c = 67 ∨ c = 88 ∨ c = 82 := by
  rcases kind_cases k with rfl | rfl | rfl | rfl | rfl | rfl | rfl | rfl | rfl | rfl | hk
  all_goals first | (simp [rowL] at h; rcases h with rfl | rfl | rfl | rfl | rfl | rfl <;> simp) | (simp [rowL] at h; rcases h with rfl | rfl | rfl | rfl | rfl <;> simp) | (simp [rowL] at h; rcases h with rfl | rfl | rfl | rfl <;> simp) | (simp [rowL] at h; rcases h with rfl | rfl | rfl <;> simp) | (simp [rowL] at h; subst h; simp) | (rw [rowL_out hk] at h; cases h)
end Rq
theorem row_len (k : Int) : (Rq.rowL k).length ≤ 6 := by
  rcases Rq.kind_cases k with rfl | rfl | rfl | rfl | rfl | rfl | rfl | rfl | rfl | rfl | hk
  all_goals first | (simp [Rq.rowL]; done) | (rw [Rq.rowL_out hk]; simp)
theorem onlyA_sz (x : Rqt) (p q : Option Addr) (n cap m cap2 : Nat) : ∀ (l : List UInt8), (Rq.onlyA x p q n cap m cap2 l).size = 12 := by
  have h : ∀ (l : List UInt8) (a : Array Value), a.size = 12 → (l.foldl (Rq.setA x p q n cap m cap2) a).size = 12 := by
    intro l
    induction l with
    | nil => exact fun a h => h
    | cons c l ih => exact fun a h => ih _ (by rw [Rq.setA_size]; exact h)
  exact fun l => h l _ rfl
theorem onlyA_one (x : Rqt) (p q : Option Addr) (n cap m cap2 : Nat) (k : Int) : (Rq.onlyA x p q n cap m cap2 (Rq.rowL k)).toList.all (·.oneCell') = true := by
  rcases Rq.kind_cases k with rfl | rfl | rfl | rfl | rfl | rfl | rfl | rfl | rfl | rfl | hk
  all_goals first | rfl | (rw [Rq.rowL_out hk]; rfl)
attribute [local go_sem ↓] Rq_execLoad Rq_execStore

attribute [local go_sem] Rq_load Rq_store loL_drew okL_drew there_sc World.there_drew

set_option maxRecDepth 8000 in
set_option maxHeartbeats 4000000 in
theorem rOnly_any (x : Rqt) (p q : Option Addr) (n cap m cap2 : Nat) (w : World) : Calls Tryz.prog 24 #[.agg #[.string x.key, .int .i64 x.k, .int .i64 x.d, .int .u64 x.tk, .int .i64 x.c, .int .i64 x.st, .string x.loc, .slice p n cap, .slice q m cap2, .int .i64 x.am, .int .i64 x.fr, .int .i64 x.tt]] w fun e w' => e = .returned (.agg (Rq.onlyA x p q n cap m cap2 (Rq.rowL x.k))) ∧ Below w.heap.size w w' := by
  have HROW := Lib.hid (fun W => rRow_any x.k W)
  have hb1 := (Below.refl w.heap.size w).alloc (Nat.le_refl _) (.cells #[.string x.key, .int .i64 x.k, .int .i64 x.d, .int .u64 x.tk, .int .i64 x.c, .int .i64 x.st, .string x.loc, .slice p n cap, .slice q m cap2, .int .i64 x.am, .int .i64 x.fr, .int .i64 x.tt] 57 (0, 0))
  have hr1 := new_rowW w (.cells #[.string x.key, .int .i64 x.k, .int .i64 x.d, .int .u64 x.tk, .int .i64 x.c, .int .i64 x.st, .string x.loc, .slice p n cap, .slice q m cap2, .int .i64 x.am, .int .i64 x.fr, .int .i64 x.tt] 57 (0, 0)) _ rfl
  have hb2 := (Below.refl (w.alloc (.cells #[.string x.key, .int .i64 x.k, .int .i64 x.d, .int .u64 x.tk, .int .i64 x.c, .int .i64 x.st, .string x.loc, .slice p n cap, .slice q m cap2, .int .i64 x.am, .int .i64 x.fr, .int .i64 x.tt] 57 (0, 0))).heap.size (w.alloc (.cells #[.string x.key, .int .i64 x.k, .int .i64 x.d, .int .u64 x.tk, .int .i64 x.c, .int .i64 x.st, .string x.loc, .slice p n cap, .slice q m cap2, .int .i64 x.am, .int .i64 x.fr, .int .i64 x.tt] 57 (0, 0)))).alloc (Nat.le_refl _) (.cells #[.string ⟨#[]⟩, .int .i64 0, .int .i64 0, .int .u64 0, .int .i64 0, .int .i64 0, .string ⟨#[]⟩, .slice none 0 0, .slice none 0 0, .int .i64 0, .int .i64 0, .int .i64 0] 57 (0, 0))
  have hr2 := new_rowW (w.alloc (.cells #[.string x.key, .int .i64 x.k, .int .i64 x.d, .int .u64 x.tk, .int .i64 x.c, .int .i64 x.st, .string x.loc, .slice p n cap, .slice q m cap2, .int .i64 x.am, .int .i64 x.fr, .int .i64 x.tt] 57 (0, 0))) (.cells #[.string ⟨#[]⟩, .int .i64 0, .int .i64 0, .int .u64 0, .int .i64 0, .int .i64 0, .string ⟨#[]⟩, .slice none 0 0, .slice none 0 0, .int .i64 0, .int .i64 0, .int .i64 0] 57 (0, 0)) _ rfl
  have HX := Lib.hid ((hb2.block _ (block_lt hr1)).trans hr1)
  have hsz : (w.alloc (.cells #[.string x.key, .int .i64 x.k, .int .i64 x.d, .int .u64 x.tk, .int .i64 x.c, .int .i64 x.st, .string x.loc, .slice p n cap, .slice q m cap2, .int .i64 x.am, .int .i64 x.fr, .int .i64 x.tt] 57 (0, 0))).heap.size = w.heap.size + 1 := by simp
  rw [hsz] at hr2
  have HB := Lib.hid (hb1.trans (hb2.mono hb1.size))
  have HZ := Lib.hid hr2
  clear hb1 hb2 hr1 hr2 hsz
  go_enter Tryz.func24, Tryz.ntmps24
  go_upto_region 1 with fail
  generalize (w.alloc (.cells #[.string x.key, .int .i64 x.k, .int .i64 x.d, .int .u64 x.tk, .int .i64 x.c, .int .i64 x.st, .string x.loc, .slice p n cap, .slice q m cap2, .int .i64 x.am, .int .i64 x.fr, .int .i64 x.tt] 57 (0, 0))).alloc (.cells #[.string ⟨#[]⟩, .int .i64 0, .int .i64 0, .int .u64 0, .int .i64 0, .int .i64 0, .string ⟨#[]⟩, .slice none 0 0, .slice none 0 0, .int .i64 0, .int .i64 0, .int .i64 0] 57 (0, 0)) = w2 at *
  have kc := cell_of_row w2 w.heap.size 1 _ _ _ HX.out
  have tc := there_newT (w := w2) (zs := [.string ⟨#[]⟩, .int .i64 0, .int .i64 0, .int .u64 0, .int .i64 0, .int .i64 0, .string ⟨#[]⟩, .slice none 0 0, .slice none 0 0, .int .i64 0, .int .i64 0, .int .i64 0]) (e := 57) (n := 12) rfl
  have c6n : ([.string ⟨#[]⟩, .int .i64 x.k, .int .i64 0, .int .u64 0, .int .i64 0, .int .i64 0, .string ⟨#[]⟩, .slice none 0 0, .slice none 0 0, .int .i64 0, .int .i64 0, .int .i64 0] : List Value).length = 12 := rfl
  have c6c : ([.string ⟨#[]⟩, .int .i64 x.k, .int .i64 0, .int .u64 0, .int .i64 0, .int .i64 0, .string ⟨#[]⟩, .slice none 0 0, .slice none 0 0, .int .i64 0, .int .i64 0, .int .i64 0] : List Value).all (·.oneCell') = true := rfl
  go_upto_region 2 with fail
  have HP := Lib.hid (putRec (W := w2) (e := 57) (zs := [.string ⟨#[]⟩, .int .i64 0, .int .i64 0, .int .u64 0, .int .i64 0, .int .i64 0, .string ⟨#[]⟩, .slice none 0 0, .slice none 0 0, .int .i64 0, .int .i64 0, .int .i64 0]) (cs := [.string ⟨#[]⟩, .int .i64 x.k, .int .i64 0, .int .u64 0, .int .i64 0, .int .i64 0, .string ⟨#[]⟩, .slice none 0 0, .slice none 0 0, .int .i64 0, .int .i64 0, .int .i64 0]) rfl)
  have HGO : Hid (w.heap.size + 1 < w2.heap.size) := Lib.hid (block_lt HZ.out)
  have HN1 : Hid (w.heap.size ≠ w2.heap.size) := Lib.hid (by have := HGO.out; omega)
  have HN2 : Hid (w.heap.size + 1 ≠ w2.heap.size) := Lib.hid (by have := HGO.out; omega)
  have HN3 : Hid (∀ i, i = w2.heap.size → w.heap.size ≤ i) := Lib.hid (by have := HGO.out; intro i h; omega)
  replace HX := Lib.hid ((HP.out.2.block _ (block_lt HX.out)).trans HX.out)
  replace HZ := Lib.hid ((HP.out.2.block _ (block_lt HZ.out)).trans HZ.out)
  replace HB := Lib.hid (HB.out.trans (HP.out.2.mono HB.out.size))
  have HO := Lib.hid HP.out.1
  clear HP tc c6n c6c kc
  generalize (w2.alloc (.cells #[.string ⟨#[]⟩, .int .i64 0, .int .i64 0, .int .u64 0, .int .i64 0, .int .i64 0, .string ⟨#[]⟩, .slice none 0 0, .slice none 0 0, .int .i64 0, .int .i64 0, .int .i64 0] 57 (0, 0))).setCells w2.heap.size 0 [.string ⟨#[]⟩, .int .i64 x.k, .int .i64 0, .int .u64 0, .int .i64 0, .int .i64 0, .string ⟨#[]⟩, .slice none 0 0, .slice none 0 0, .int .i64 0, .int .i64 0, .int .i64 0] = w3 at *
  generalize w2.heap.size = go at *
  have kc := cell_of_row w3 w.heap.size 1 _ _ _ HX.out
  go_wp2_with fail
  refine (HROW.out _).mono ?_
  rintro e w4 ⟨rfl, hb⟩
  replace HX := Lib.hid ((hb.block _ (block_lt HX.out)).trans HX.out)
  replace HZ := Lib.hid ((hb.block _ (block_lt HZ.out)).trans HZ.out)
  replace HO := Lib.hid ((hb.block _ (block_lt HO.out)).trans HO.out)
  replace HB := Lib.hid (HB.out.trans (hb.mono HB.out.size))
  clear hb kc HROW
  obtain ⟨S, hS⟩ : ∃ S : ByteArray, ⟨(Rq.rowL x.k).toArray⟩ = S := ⟨_, rfl⟩
  rw [hS]
  have HSL : Hid (S.data.toList = Rq.rowL x.k) := Lib.hid (by rw [← hS])
  have hsz : S.size ≤ 6 := by rw [← hS]; exact row_len x.k
  clear hS
  go_wp2_with fail
  go_loopw [5] (fun i wr => ∃ j : Nat, j ≤ S.size ∧ i = .int .i64 j ∧ wr.heap[w.heap.size]? = some (.cells #[.string x.key, .int .i64 x.k, .int .i64 x.d, .int .u64 x.tk, .int .i64 x.c, .int .i64 x.st, .string x.loc, .slice p n cap, .slice q m cap2, .int .i64 x.am, .int .i64 x.fr, .int .i64 x.tt] 57 (0, 0)) ∧ wr.heap[w.heap.size + 1]? = some (.cells #[.string ⟨#[]⟩, .int .i64 0, .int .i64 0, .int .u64 0, .int .i64 0, .int .i64 0, .string ⟨#[]⟩, .slice none 0 0, .slice none 0 0, .int .i64 0, .int .i64 0, .int .i64 0] 57 (0, 0)) ∧ wr.heap[go]? = some (.cells (Rq.onlyA x p q n cap m cap2 (S.data.toList.take j)) 57 (0, 0)) ∧ Below w.heap.size w wr) (fun i _ => S.size - (intOf i).toNat)
  case atStart => exact ⟨0, Nat.zero_le _, rfl, HX.out, HZ.out, HO.out, HB.out⟩
  case round =>
    obtain ⟨j, hj, rfl, hx, hz, ho, hb⟩ := hrel
    clear HX HZ HO HB
    have HX := Lib.hid hx; have HZ := Lib.hid hz; have HO := Lib.hid ho; have HB := Lib.hid hb
    clear hx hz ho hb
    by_cases hlt : j < S.size
    · have HTK : Hid (S.data.toList.take (j + 1) = S.data.toList.take j ++ [S[j]]) := Lib.hid (take_sn (by rw [List.getElem?_eq_getElem (by simpa using hlt)]; rfl))
      have hm : S[j] ∈ Rq.rowL x.k := by rw [← HSL.out]; exact List.getElem_mem (l := S.data.toList) (by simpa using hlt)
      have hm2 := Rq.row_mem hm
      clear hm
      have hx := fun i => cell_of_row wr w.heap.size i _ _ _ HX.out
      have hfrz := fun i => frozen_of_row wr go i _ _ HO.out
      have HCO := Lib.hid (fun i (hi : i < 12) => (⟨_, (cell_of_row wr go i _ _ _ HO.out).trans (Array.getElem?_eq_getElem (by rw [onlyA_sz]; exact hi))⟩ : ∃ v, wr.cell? ⟨go, i, none⟩ = some v))
      rcases hm2 with hm2 | hm2 | hm2 | hm2 | hm2 | hm2 | hm2 | hm2 | hm2 | hm2 | hm2
      · have hcn : ((S[j]).toNat : Int) = 75 := by rw [hm2]; rfl
        have HM2 := Lib.hid hm2
        clear hm2
        obtain ⟨v0, hv0⟩ := HCO.out 0 (by decide)
        go_wp2_with fail
        go_roundw
        case rel =>
          refine ⟨j + 1, by omega, by go_num, (heap_setCell_other _ _ _ _ HN1.out).trans HX.out, (heap_setCell_other _ _ _ _ HN2.out).trans HZ.out, ?_, Turn.below HB.out HB.out.size ((Turn.refl (· = go) wr).setCell rfl _ _) HN3.out⟩
          rw [HTK.out, Rq.onlyA_snoc, HM2.out]
          exact heap_setCell_same _ _ _ _ _ _ HO.out
        case measure => simp [intOf]; omega
      · have hcn : ((S[j]).toNat : Int) = 68 := by rw [hm2]; rfl
        have HM2 := Lib.hid hm2
        clear hm2
        obtain ⟨v2, hv2⟩ := HCO.out 2 (by decide)
        go_wp2_with fail
        go_roundw
        case rel =>
          refine ⟨j + 1, by omega, by go_num, (heap_setCell_other _ _ _ _ HN1.out).trans HX.out, (heap_setCell_other _ _ _ _ HN2.out).trans HZ.out, ?_, Turn.below HB.out HB.out.size ((Turn.refl (· = go) wr).setCell rfl _ _) HN3.out⟩
          rw [HTK.out, Rq.onlyA_snoc, HM2.out]
          exact heap_setCell_same _ _ _ _ _ _ HO.out
        case measure => simp [intOf]; omega
      · have hcn : ((S[j]).toNat : Int) = 76 := by rw [hm2]; rfl
        have HM2 := Lib.hid hm2
        clear hm2
        obtain ⟨v6, hv6⟩ := HCO.out 6 (by decide)
        go_wp2_with fail
        go_roundw
        case rel =>
          refine ⟨j + 1, by omega, by go_num, (heap_setCell_other _ _ _ _ HN1.out).trans HX.out, (heap_setCell_other _ _ _ _ HN2.out).trans HZ.out, ?_, Turn.below HB.out HB.out.size ((Turn.refl (· = go) wr).setCell rfl _ _) HN3.out⟩
          rw [HTK.out, Rq.onlyA_snoc, HM2.out]
          exact heap_setCell_same _ _ _ _ _ _ HO.out
        case measure => simp [intOf]; omega
      · have hcn : ((S[j]).toNat : Int) = 84 := by rw [hm2]; rfl
        have HM2 := Lib.hid hm2
        clear hm2
        obtain ⟨v3, hv3⟩ := HCO.out 3 (by decide)
        go_wp2_with fail
        go_roundw
        case rel =>
          refine ⟨j + 1, by omega, by go_num, (heap_setCell_other _ _ _ _ HN1.out).trans HX.out, (heap_setCell_other _ _ _ _ HN2.out).trans HZ.out, ?_, Turn.below HB.out HB.out.size ((Turn.refl (· = go) wr).setCell rfl _ _) HN3.out⟩
          rw [HTK.out, Rq.onlyA_snoc, HM2.out]
          exact heap_setCell_same _ _ _ _ _ _ HO.out
        case measure => simp [intOf]; omega
      · have hcn : ((S[j]).toNat : Int) = 78 := by rw [hm2]; rfl
        have HM2 := Lib.hid hm2
        clear hm2
        obtain ⟨v4, hv4⟩ := HCO.out 4 (by decide)
        go_wp2_with fail
        go_roundw
        case rel =>
          refine ⟨j + 1, by omega, by go_num, (heap_setCell_other _ _ _ _ HN1.out).trans HX.out, (heap_setCell_other _ _ _ _ HN2.out).trans HZ.out, ?_, Turn.below HB.out HB.out.size ((Turn.refl (· = go) wr).setCell rfl _ _) HN3.out⟩
          rw [HTK.out, Rq.onlyA_snoc, HM2.out]
          exact heap_setCell_same _ _ _ _ _ _ HO.out
        case measure => simp [intOf]; omega
      · have hcn : ((S[j]).toNat : Int) = 83 := by rw [hm2]; rfl
        have HM2 := Lib.hid hm2
        clear hm2
        obtain ⟨v5, hv5⟩ := HCO.out 5 (by decide)
        go_wp2_with fail
        go_roundw
        case rel =>
          refine ⟨j + 1, by omega, by go_num, (heap_setCell_other _ _ _ _ HN1.out).trans HX.out, (heap_setCell_other _ _ _ _ HN2.out).trans HZ.out, ?_, Turn.below HB.out HB.out.size ((Turn.refl (· = go) wr).setCell rfl _ _) HN3.out⟩
          rw [HTK.out, Rq.onlyA_snoc, HM2.out]
          exact heap_setCell_same _ _ _ _ _ _ HO.out
        case measure => simp [intOf]; omega
      · have hcn : ((S[j]).toNat : Int) = 65 := by rw [hm2]; rfl
        have HM2 := Lib.hid hm2
        clear hm2
        obtain ⟨v9, hv9⟩ := HCO.out 9 (by decide)
        go_wp2_with fail
        go_roundw
        case rel =>
          refine ⟨j + 1, by omega, by go_num, (heap_setCell_other _ _ _ _ HN1.out).trans HX.out, (heap_setCell_other _ _ _ _ HN2.out).trans HZ.out, ?_, Turn.below HB.out HB.out.size ((Turn.refl (· = go) wr).setCell rfl _ _) HN3.out⟩
          rw [HTK.out, Rq.onlyA_snoc, HM2.out]
          exact heap_setCell_same _ _ _ _ _ _ HO.out
        case measure => simp [intOf]; omega
      · have hcn : ((S[j]).toNat : Int) = 74 := by rw [hm2]; rfl
        have HM2 := Lib.hid hm2
        clear hm2
        obtain ⟨v7, hv7⟩ := HCO.out 7 (by decide)
        go_wp2_with fail
        go_roundw
        case rel =>
          refine ⟨j + 1, by omega, by go_num, (heap_setCell_other _ _ _ _ HN1.out).trans HX.out, (heap_setCell_other _ _ _ _ HN2.out).trans HZ.out, ?_, Turn.below HB.out HB.out.size ((Turn.refl (· = go) wr).setCell rfl _ _) HN3.out⟩
          rw [HTK.out, Rq.onlyA_snoc, HM2.out]
          exact heap_setCell_same _ _ _ _ _ _ HO.out
        case measure => simp [intOf]; omega
      · have hcn : ((S[j]).toNat : Int) = 67 := by rw [hm2]; rfl
        have HM2 := Lib.hid hm2
        clear hm2
        obtain ⟨v7, hv7⟩ := HCO.out 7 (by decide)
        go_wp2_with fail
        go_roundw
        case rel =>
          refine ⟨j + 1, by omega, by go_num, (heap_setCell_other _ _ _ _ HN1.out).trans HX.out, (heap_setCell_other _ _ _ _ HN2.out).trans HZ.out, ?_, Turn.below HB.out HB.out.size ((Turn.refl (· = go) wr).setCell rfl _ _) HN3.out⟩
          rw [HTK.out, Rq.onlyA_snoc, HM2.out]
          exact heap_setCell_same _ _ _ _ _ _ HO.out
        case measure => simp [intOf]; omega
      · have hcn : ((S[j]).toNat : Int) = 88 := by rw [hm2]; rfl
        have HM2 := Lib.hid hm2
        clear hm2
        obtain ⟨v8, hv8⟩ := HCO.out 8 (by decide)
        go_wp2_with fail
        go_roundw
        case rel =>
          refine ⟨j + 1, by omega, by go_num, (heap_setCell_other _ _ _ _ HN1.out).trans HX.out, (heap_setCell_other _ _ _ _ HN2.out).trans HZ.out, ?_, Turn.below HB.out HB.out.size ((Turn.refl (· = go) wr).setCell rfl _ _) HN3.out⟩
          rw [HTK.out, Rq.onlyA_snoc, HM2.out]
          exact heap_setCell_same _ _ _ _ _ _ HO.out
        case measure => simp [intOf]; omega
      · have hcn : ((S[j]).toNat : Int) = 82 := by rw [hm2]; rfl
        have HM2 := Lib.hid hm2
        clear hm2
        obtain ⟨v10, hv10⟩ := HCO.out 10 (by decide)
        obtain ⟨v11, hv11⟩ := HCO.out 11 (by decide)
        go_wp2_with fail
        go_roundw
        case rel =>
          refine ⟨j + 1, by omega, by go_num, (heap_setCell_other _ _ _ _ HN1.out).trans ((heap_setCell_other _ _ _ _ HN1.out).trans HX.out), (heap_setCell_other _ _ _ _ HN2.out).trans ((heap_setCell_other _ _ _ _ HN2.out).trans HZ.out), ?_, Turn.below HB.out HB.out.size (((Turn.refl (· = go) wr).setCell rfl _ _).setCell rfl _ _) HN3.out⟩
          rw [HTK.out, Rq.onlyA_snoc, HM2.out]
          exact heap_setCell_same _ _ _ _ _ _ (heap_setCell_same _ _ _ _ _ _ HO.out)
        case measure => simp [intOf]; omega
    · obtain rfl : j = S.size := by omega
      have HOA : Hid (wr.heap[go]? = some (.cells (Rq.onlyA x p q n cap m cap2 (Rq.rowL x.k)).toList.toArray 57 (0, 0))) := Lib.hid (by have h := HO.out; rw [List.take_of_length_le (by simp), HSL.out] at h; rw [h])
      have HC1 : Hid ((Rq.onlyA x p q n cap m cap2 (Rq.rowL x.k)).toList.all (·.oneCell') = true) := Lib.hid (onlyA_one x p q n cap m cap2 x.k)
      have HCL : Hid ((Rq.onlyA x p q n cap m cap2 (Rq.rowL x.k)).toList.length = 12) := Lib.hid (by rw [Array.length_toList, onlyA_sz])
      have HEQ : Hid ((Rq.onlyA x p q n cap m cap2 (Rq.rowL x.k)) = (Rq.onlyA x p q n cap m cap2 (Rq.rowL x.k)).toList.toArray) := Lib.hid (by simp)
      generalize (Rq.onlyA x p q n cap m cap2 (Rq.rowL x.k)).toList = OL at *
      obtain ⟨f1, f2⟩ := row_loT 12 HOA.out (List.take_of_length_le (by have := HCL.out; omega)) HCL.out
      have th := there_rowT (n := 12) HZ.out rfl
      have c6n := HCL.out
      have c6c := HC1.out
      go_wp2_with fail
      (try simp only [Exit.inBlock, Exit.then])
      have hr6 := setCells_rowT (g := w.heap.size + 1) (cs := OL) HZ.out (by rw [HCL.out]; rfl)
      refine bodyPost_ret (results_cellT rfl _ _ (w.heap.size + 1) rfl (loadRq hr6 (by simpa using HCL.out))) rfl ?_
      exact ⟨by rw [HEQ.out], Only.below HB.out (Nat.le_succ _) HB.out.size ((Only.refl (w.heap.size + 1) _).setCells 0 _)⟩
end Go.Proofs.YtbmphlpmipkpcaaGreat
