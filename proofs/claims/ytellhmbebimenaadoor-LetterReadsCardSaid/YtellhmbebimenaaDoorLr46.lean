/- Contract: the reference's bytes of a letter (couponref20.Bytes). Contracts of the reference's cursor (couponref13): Take, Cut. -/
import Derived.Test.YtellhmbebimenaaDoorLr45
import Derived.Test.YtellhmbebimenaaDoorLr26
import Derived.Test.YtellhmbebimenaaDoorLr29
import Derived.Test.YtellhmbebimenaaDoorLr2

section
set_option linter.unusedVariables false
set_option linter.unusedSimpArgs false
namespace Go.Proofs.YtellhmbebimenaaDoor
open Go.RowKit

theorem rMailB_any (m : Ml) (ht : U64 m.tk) (hm : m.may = true) (w : World) :
    Calls Tryd.prog 58 #[.agg m.arr] w fun e w' => ∃ u, e = .returned u ∧ w'.ownsRow w.heap.size 5 1 u (encM m).length (bytesV (encM m)) ∧ Below w.heap.size w w' := by
  obtain ⟨hk, hn, hc, hco, hd, hw, hz2, hz3, hzc⟩ := ml_facts hm
  obtain ⟨k, tk, c, d, co, fl, dy, va, st, ho, nx⟩ := m
  simp only at hk hc hco hd hw ht
  exact rMailBytes_any k tk c d co fl dy va st ho nx ⟨by omega, by omega⟩ ⟨ht.1, by have := ht.1; have := ht.2; omega⟩ ⟨by omega, by omega⟩
    ⟨fun h => by have := hco h; exact ⟨by omega, by omega⟩, fun h => by have := hd h; exact ⟨by omega, by omega⟩, fun h => by obtain ⟨w1, w2, w3, -⟩ := hw h; exact ⟨⟨by omega, by omega⟩, ⟨by omega, by omega⟩, ⟨by omega, by omega⟩⟩⟩ w
attribute [local go_sem ↓] ml_execLoad lt_execLoad

attribute [local go_sem] ml_load lt_load loL_drew okL_drew

set_option maxRecDepth 8000 in
set_option maxHeartbeats 4000000 in
theorem rBytes20_any (x : Lt) (hw : x.wf) (hm : x.may = true) (w : World) :
    Calls Tryd.prog 19 #[.agg #[.int .i64 x.f, .int .i64 x.t, .int .u64 x.n, .int .u64 x.a, .int .i64 x.k, .int .u64 x.tk, .int .i64 x.c, .int .i64 x.d, .int .i64 x.co, .int .i64 x.fl, .int .i64 x.dy, .int .i64 x.va, .int .i64 x.st, .int .i64 x.ho, .int .u64 x.nx]] w fun e w' => ∃ u, e = .returned u ∧ w'.ownsRow w.heap.size 5 1 u (encLt x).length (bytesV (encLt x)) ∧ Below w.heap.size w w' := by
  have F0 := lt_facts hm
  have HMB : Hid (∀ W : World, ¬ x.n = 0 → Calls Tryd.prog 58 #[.agg #[.int .i64 x.k, .int .u64 x.tk, .int .i64 x.c, .int .i64 x.d, .int .i64 x.co, .int .i64 x.fl, .int .i64 x.dy, .int .i64 x.va, .int .i64 x.st, .int .i64 x.ho, .int .u64 x.nx]] W fun e w' => ∃ u, e = .returned u ∧ w'.ownsRow W.heap.size 5 1 u (encM x.ml).length (bytesV (encM x.ml)) ∧ Below W.heap.size W w') := Lib.hid (fun W h => rMailB_any x.ml hw.tk (F0.m h) W)
  have HLM := Lib.hid (encM_len x.ml)
  obtain ⟨n0, n1⟩ := hw.n
  obtain ⟨a0, a1⟩ := hw.a
  have hf := F0.f; have ht := F0.t
  have f1 : fitB x.f 65536 := ⟨by omega, by omega⟩
  have f2 : fitB x.t 65536 := ⟨by omega, by omega⟩
  have f3 : fitB x.n 18446744073709551616 := ⟨by omega, by omega⟩
  have f4 : fitB x.a 18446744073709551616 := ⟨by omega, by omega⟩
  have z1 := wrap_fit f1 (by decide)
  have z2 := wrap_fit f2 (by decide)
  have HE : Hid (encLt x = if x.n = 0 then encLh x else encLh x ++ encM x.ml) := Lib.hid rfl
  have HN0 := Lib.hid n0
  have hb := (Below.refl w.heap.size w).alloc (Nat.le_refl _) (.cells #[.int .i64 x.f, .int .i64 x.t, .int .u64 x.n, .int .u64 x.a, .int .i64 x.k, .int .u64 x.tk, .int .i64 x.c, .int .i64 x.d, .int .i64 x.co, .int .i64 x.fl, .int .i64 x.dy, .int .i64 x.va, .int .i64 x.st, .int .i64 x.ho, .int .u64 x.nx] 31)
  have hrw := new_rowW w (.cells #[.int .i64 x.f, .int .i64 x.t, .int .u64 x.n, .int .u64 x.a, .int .i64 x.k, .int .u64 x.tk, .int .i64 x.c, .int .i64 x.d, .int .i64 x.co, .int .i64 x.fl, .int .i64 x.dy, .int .i64 x.va, .int .i64 x.st, .int .i64 x.ho, .int .u64 x.nx] 31) _ rfl
  have hl1 : ([] ++ Wire.be x.f.toNat 2).length ≤ 1000 := by rw [List.nil_append, Wire.be_length]; decide
  have hl2 : ([] ++ Wire.be x.f.toNat 2 ++ Wire.be x.t.toNat 2).length ≤ 1000 := by rw [List.nil_append, List.length_append, Wire.be_length, Wire.be_length]; decide
  have hl3 : ([] ++ Wire.be x.f.toNat 2 ++ Wire.be x.t.toNat 2 ++ Wire.be x.n.toNat 8).length ≤ 1000 := by rw [List.nil_append, List.length_append, List.length_append, Wire.be_length, Wire.be_length, Wire.be_length]; decide
  have HEH : Hid ([] ++ Wire.be x.f.toNat 2 ++ Wire.be x.t.toNat 2 ++ Wire.be x.n.toNat 8 ++ Wire.be x.a.toNat 8 = encLh x) := Lib.hid (by unfold encLh; simp)
  have HLH : Hid ((encLh x).length = 20) := Lib.hid (by unfold encLh; simp only [List.length_append, Wire.be_length])
  clear F0 n0 n1 a0 a1 hf ht hw hm
  go_enter Tryd.func19, Tryd.ntmps19
  go_upto_region 1 with fail
  generalize w.alloc (.cells #[.int .i64 x.f, .int .i64 x.t, .int .u64 x.n, .int .u64 x.a, .int .i64 x.k, .int .u64 x.tk, .int .i64 x.c, .int .i64 x.d, .int .i64 x.co, .int .i64 x.fl, .int .i64 x.dy, .int .i64 x.va, .int .i64 x.st, .int .i64 x.ho, .int .u64 x.nx] 31) = W0 at *
  have hc0 := fun j => cell_of_row W0 w.heap.size j _ _ _ hrw
  have hb := hb.drew
  have hbz : w.heap.size ≤ W0.drew.heap.size := hb.size
  have hrw : W0.drew.heap[w.heap.size]? = _ := hrw
  go_region_held3 (fun w' => w'.cell? ⟨w.heap.size, 0, none⟩ = some (.int .i64 x.f) ∧ w'.cell? ⟨w.heap.size, 1, none⟩ = some (.int .i64 x.t) ∧ w'.cell? ⟨w.heap.size, 2, none⟩ = some (.int .u64 x.n) ∧ w'.cell? ⟨w.heap.size, 3, none⟩ = some (.int .u64 x.a)) (first | exact ⟨cell_of_row _ _ 0 _ _ _ hrw, cell_of_row _ _ 1 _ _ _ hrw, cell_of_row _ _ 2 _ _ _ hrw, cell_of_row _ _ 3 _ _ _ hrw⟩ | go_keep) (first
    | (go_at_call 57; refine (put20_any w.heap.size _ _ x.a 8 (by decide) f4 (by decide) hl3 _ hbz ho3).mono ?_; rintro e w4 ⟨u4, rfl, ho4, hg4⟩; have hrw := row_put ho3 hg4 hrw (by decide); have hb := below_put hb hbz ho3 hg4; have hbz := Nat.le_trans hbz hg4.size)
    | (go_at_call 57; refine (put20_any w.heap.size _ _ x.n 8 (by decide) f3 (by decide) hl2 _ hbz ho2).mono ?_; rintro e w3 ⟨u3, rfl, ho3, hg3⟩; have hrw := row_put ho2 hg3 hrw (by decide); have hb := below_put hb hbz ho2 hg3; have hbz := Nat.le_trans hbz hg3.size)
    | (go_at_call 57; refine (put20_any w.heap.size _ _ x.t 2 (by decide) f2 (by decide) hl1 _ hbz ho1).mono ?_; rintro e w2 ⟨u2, rfl, ho2, hg2⟩; have hrw := row_put ho1 hg2 hrw (by decide); have hb := below_put hb hbz ho1 hg2; have hbz := Nat.le_trans hbz hg2.size)
    | (go_at_call 57; refine (put20_any w.heap.size (.slice none 0 0) [] x.f 2 (by decide) f1 (by decide) (by decide) _ hbz (World.ownsRow_nil _ _ _ _)).mono ?_; rintro e w1 ⟨u1, rfl, ho1, hg1⟩; have hrw := row_put (World.ownsRow_nil W0.drew w.heap.size 5 1) hg1 hrw (by decide); have hb := below_put hb hbz (World.ownsRow_nil W0.drew w.heap.size 5 1) hg1; have hbz := Nat.le_trans hbz hg1.size))
  rw [HEH.out] at ho4
  have HB := Lib.hid hb
  have HR := Lib.hid hrw
  have HO := Lib.hid ho4
  clear hb hrw ho1 ho2 ho3 ho4 hg1 hg2 hg3 hg4 hc0 hl1 hl2 hl3 f1 f2 f3 f4 z1 z2 hbz HEH
  have hcp := fun j => cell_of_row w4 w.heap.size j _ _ _ HR.out
  by_cases h0 : x.n = 0
  · have hn0 : decide (0 < x.n) = false := by simp; omega
    have HE : Hid (encLt x = encLh x) := Lib.hid (by rw [HE.out, if_pos h0])
    have hgt : ¬ 0 < x.n := by omega
    clear HMB h0
    go_wp2
    go_ret
    exact ⟨_, rfl, by rw [HE.out]; exact HO.out, HB.out⟩
  · have hgt : 0 < x.n := by have := HN0.out; omega
    have HE : Hid (encLt x = encLh x ++ encM x.ml) := Lib.hid (by rw [HE.out, if_neg h0])
    have HMC := Lib.hid (fun W => HMB.out W h0)
    clear HMB h0
    obtain ⟨g1, g2⟩ := row_loO 11 4 HR.out (ds := [.int .i64 x.k, .int .u64 x.tk, .int .i64 x.c, .int .i64 x.d, .int .i64 x.co, .int .i64 x.fl, .int .i64 x.dy, .int .i64 x.va, .int .i64 x.st, .int .i64 x.ho, .int .u64 x.nx]) rfl rfl
    go_wp2_with fail
    clear g1 g2 hcp
    refine (HMC.out _).mono ?_
    rintro e w5 ⟨v5, rfl, ho5, hb5⟩
    have HB5 := Lib.hid (BS.of_own ho5)
    have HO := Lib.hid (own_below HO.out hb5)
    have HB := Lib.hid (HB.out.trans (hb5.mono HB.out.size))
    clear ho5 hb5
    go_wp2_with (at_builtin; refine wpList_append_bytes rfl _ _ rfl w.heap.size _ _ _ rfl HO.out _ _ rfl HB5.out ?c1 ?c2 ?_)
    case c1 => have := HLH.out; have := HLM.out; omega
    case c2 => exact HB.out.size
    intro u6 w6 hown hg hn2 hat2
    have HZ : Hid (w6.ownsRow w.heap.size 5 1 u6 (encLt x).length (bytesV (encLt x))) := Lib.hid (by rw [HE.out, List.length_append, bytesV_append]; exact hown)
    have HBZ := Lib.hid (below_put HB.out HB.out.size HO.out hg)
    clear hown hg hn2 hat2
    go_wp2
    go_ret
    exact ⟨_, rfl, HZ.out, HBZ.out⟩
end Go.Proofs.YtellhmbebimenaaDoor
end

section
set_option linter.unusedVariables false
set_option linter.unusedSimpArgs false
namespace Go.Proofs.YtellhmbebimenaaDoor
open Go.RowKit

/-- a cursor at block g over bytes that lie below base; none: it is bad -/
def IsC (w : World) (base g : Nat) (st : Option (List UInt8)) : Prop :=
  base ≤ g ∧ ∃ (v : Value) (b : List UInt8) (bad : Bool), w.heap[g]? = some (.cells #[v, .bool bad] 105 (0, 0)) ∧ (∀ W, Below base w W → BS W v b) ∧ st = if bad then none else some b
theorem IsC.lt {w : World} {base g : Nat} {st : Option (List UInt8)} (h : IsC w base g st) : base ≤ g ∧ g < w.heap.size := by
  obtain ⟨hb, v, b, bad, h1, _⟩ := h
  exact ⟨hb, block_lt h1⟩
theorem IsC.below {w w' : World} {base g : Nat} {st : Option (List UInt8)} (h : IsC w base g st) (hw : Below w.heap.size w w') : IsC w' base g st := by
  have hlt := h.lt
  obtain ⟨hb, v, b, bad, h1, h2, h3⟩ := h
  exact ⟨hb, v, b, bad, (hw.block g hlt.2).trans h1, fun W hW => h2 W ((hw.mono (by omega)).trans hW), h3⟩
/-- what a cursor's method leaves -/
def CStep (w w' : World) (base g : Nat) (st : Option (List UInt8)) : Prop := IsC w' base g st ∧ Only g w w' ∧ w'.heap.size = w.heap.size
theorem only_below {w w' : World} {base g : Nat} (h : Only g w w') (hb : base ≤ g) (hl : base ≤ w.heap.size) : Below base w w' := Only.below (Below.refl _ _) hb hl h

set_option maxRecDepth 4000 in
set_option maxHeartbeats 1000000 in
theorem cTake_any (base g : Nat) (st : Option (List UInt8)) (s : Int) (w : World) (h : IsC w base g st) :
    Calls Tryd.prog 61 #[.pointer (some ⟨g, 0, none⟩), .int .i64 s] w fun e w' => e = .returned (.int .u64 (rNumV st s : Int)) ∧ CStep w w' base g (rNumS st s) := by
  have hlt := h.lt
  obtain ⟨hb, v, b, bad, hrow, hbs, rfl⟩ := h
  have hc := fun j => cell_of_row w g j _ _ _ hrow
  have hf := fun j => frozen_of_row w g j _ _ hrow
  have HROW := Lib.hid hrow
  have HBS := Lib.hid hbs
  have HTN := Lib.hid (rTakeNumber_any v b s w (hbs w (Below.refl _ _)))
  clear hrow hbs
  obtain ⟨ok, hok⟩ : ∃ ok, (tNum b s).isSome = ok := ⟨_, rfl⟩
  rw [hok] at HTN
  have HOK := Lib.hid hok
  clear hok
  generalize hV : numV b s = V at *
  have HV := Lib.hid hV
  clear hV
  go_enter Tryd.func61, Tryd.ntmps61
  go_wp2_with fail
  refine HTN.out.mono ?_
  rintro e w1 ⟨y, rfl, hy, nd, rfl⟩
  obtain ⟨py, cy, rfl, -, -, -⟩ := hy w (HBS.out w (Below.refl _ _))
  have HY := Lib.hid hy
  clear hy
  generalize (numR b s).length = ny at *
  have HN := rNum_t b s
  cases bad
  · cases ok
    · have HT : tNum b s = none := by have := HOK.out; cases h : tNum b s with | none => rfl | some q => rw [h] at this; cases this
      have HON : Only g w ((w.drewN nd).setCell ⟨g, 1, none⟩ (.bool true)) := ((Only.refl g w).drewN nd).setCell 1 _
      have HR2 : ((w.drewN nd).setCell ⟨g, 1, none⟩ (.bool true)).heap[g]? = some (.cells #[v, .bool true] 105 (0, 0)) := heap_setCell_same _ _ _ _ _ _ (show (w.drewN nd).heap[g]? = _ from HROW.out)
      have HFIN : Hid (rNumV (some b) s = 0 ∧ CStep w ((w.drewN nd).setCell ⟨g, 1, none⟩ (.bool true)) base g (rNumS (some b) s)) := Lib.hid (by
        rw [HN.1, HN.2]
        unfold numV
        rw [HT]
        exact ⟨rfl, ⟨hb, v, b, true, HR2, fun W hW => HBS.out W ((only_below HON hb (by omega)).trans hW), rfl⟩, HON, by simp⟩)
      clear HT HON HR2 HN
      go_wp2
      go_ret
      exact ⟨by show Ending.returned (.int .u64 0) = Ending.returned (.int .u64 (rNumV (some b) s : Int)); rw [HFIN.out.1]; rfl, HFIN.out.2⟩
    · have HON : Only g w (((w.drewN nd).setCell ⟨g, 1, none⟩ (.bool false)).setCell ⟨g, 0, none⟩ (.slice py ny cy)) := (((Only.refl g w).drewN nd).setCell 1 _).setCell 0 _
      have HR2 : (((w.drewN nd).setCell ⟨g, 1, none⟩ (.bool false)).setCell ⟨g, 0, none⟩ (.slice py ny cy)).heap[g]? = some (.cells #[.slice py ny cy, .bool false] 105 (0, 0)) := heap_setCell_same _ _ _ _ _ _ (heap_setCell_same _ _ _ _ _ _ (show (w.drewN nd).heap[g]? = _ from HROW.out))
      have HFIN : Hid (rNumV (some b) s = V ∧ CStep w (((w.drewN nd).setCell ⟨g, 1, none⟩ (.bool false)).setCell ⟨g, 0, none⟩ (.slice py ny cy)) base g (rNumS (some b) s)) := Lib.hid (by
        rw [HN.1, HN.2, HV.out]
        refine ⟨rfl, ⟨hb, _, numR b s, false, HR2, fun W hW => HY.out W (HBS.out W ((only_below HON hb (by omega)).trans hW)), ?_⟩, HON, by simp⟩
        unfold numR
        have := HOK.out
        cases h : tNum b s with
        | none => rw [h] at this; cases this
        | some q => rfl)
      clear HON HR2 HN
      go_wp2
      go_ret
      exact ⟨by show Ending.returned (.int .u64 (V : Int)) = Ending.returned (.int .u64 (rNumV (some b) s : Int)); rw [HFIN.out.1], HFIN.out.2⟩
  · have HON : Only g w ((w.drewN nd).setCell ⟨g, 1, none⟩ (.bool true)) := ((Only.refl g w).drewN nd).setCell 1 _
    have HR2 : ((w.drewN nd).setCell ⟨g, 1, none⟩ (.bool true)).heap[g]? = some (.cells #[v, .bool true] 105 (0, 0)) := heap_setCell_same _ _ _ _ _ _ (show (w.drewN nd).heap[g]? = _ from HROW.out)
    have HFIN : Hid (rNumV none s = 0 ∧ CStep w ((w.drewN nd).setCell ⟨g, 1, none⟩ (.bool true)) base g (rNumS none s)) := Lib.hid (by
      refine ⟨by unfold rNumV; split <;> rfl, ⟨hb, v, b, true, HR2, fun W hW => HBS.out W ((only_below HON hb (by omega)).trans hW), by unfold rNumS; split <;> rfl⟩, HON, by simp⟩)
    clear HON HR2 HN
    go_wp2
    go_ret
    exact ⟨by show Ending.returned (.int .u64 0) = Ending.returned (.int .u64 (rNumV none s : Int)); rw [HFIN.out.1]; rfl, HFIN.out.2⟩

end Go.Proofs.YtellhmbebimenaaDoor
end
