/- Contracts of the reference's cursor (couponref13): Take, Cut. Contract: a letter's bytes (letter.Bytes). Plain definitions and facts on postings; no program in sight. -/
import Derived.Test.YtbmphlpmipkpcaaGreatRma34
import Derived.Test.YtbmphlpmipkpcaaGreatRma2
import Derived.Test.YtbmphlpmipkpcaaGreatRma39
import Derived.Deep.RegionHeld3
import GoSem.Core.Value
import Derived.Test.YtbmphlpmipkpcaaGreatRma1

section
set_option linter.unusedVariables false
set_option linter.unusedSimpArgs false
namespace Go.Proofs.YtbmphlpmipkpcaaGreat
open Go.RowKit

/-- a cursor at block g over bytes that lie below base; none: it is bad -/
def IsC (w : World) (base g : Nat) (st : Option (List UInt8)) : Prop :=
  base ≤ g ∧ ∃ (v : Value) (b : List UInt8) (bad : Bool), w.heap[g]? = some (.cells #[v, .bool bad] 111 (0, 0)) ∧ (∀ W, Below base w W → BS W v b) ∧ st = if bad then none else some b
theorem IsC.lt {w : World} {base g : Nat} {st : Option (List UInt8)} (h : IsC w base g st) : base ≤ g ∧ g < w.heap.size := by
  obtain ⟨hb, v, b, bad, h1, _⟩ := h
  exact ⟨hb, block_lt h1⟩
theorem IsC.below {w w' : World} {base g : Nat} {st : Option (List UInt8)} (h : IsC w base g st) (hw : Below w.heap.size w w') : IsC w' base g st := by
  have hlt := h.lt
  obtain ⟨hb, v, b, bad, h1, h2, h3⟩ := h
  exact ⟨hb, v, b, bad, (hw.block g hlt.2).trans h1, fun W hW => h2 W ((hw.mono (by omega)).trans hW), h3⟩
/-- what a cursor's method leaves -/
def CStep (w w' : World) (base g : Nat) (st : Option (List UInt8)) : Prop := IsC w' base g st ∧ Only g w w' ∧ w'.heap.size = w.heap.size
theorem only_below {w w' : World} {base g : Nat} (h : Only g w w') (hb : base ≤ g) (hl : base ≤ w.heap.size) : Below base w w' := Only.below (Below.refl _ _) hb hl h

set_option maxRecDepth 4000 in
set_option maxHeartbeats 1000000 in
theorem cTake_any (base g : Nat) (st : Option (List UInt8)) (s : Int) (w : World) (h : IsC w base g st) :
    Calls Tryz.prog 58 #[.pointer (some ⟨g, 0, none⟩), .int .i64 s] w fun e w' => e = .returned (.int .u64 (rNumV st s : Int)) ∧ CStep w w' base g (rNumS st s) := by
  have hlt := h.lt
  obtain ⟨hb, v, b, bad, hrow, hbs, rfl⟩ := h
  have hc := fun j => cell_of_row w g j _ _ _ hrow
  have hf := fun j => frozen_of_row w g j _ _ hrow
  have HROW := Lib.hid hrow
  have HBS := Lib.hid hbs
  have HTN := Lib.hid (rTakeNumber_any v b s w (hbs w (Below.refl _ _)))
  clear hrow hbs
  obtain ⟨ok, hok⟩ : ∃ ok, (tNum b s).isSome = ok := ⟨_, rfl⟩
  rw [hok] at HTN
  have HOK := Lib.hid hok
  clear hok
  generalize hV : numV b s = V at *
  have HV := Lib.hid hV
  clear hV
  go_enter Tryz.func58, Tryz.ntmps58
  go_wp2_with fail
  refine HTN.out.mono ?_
  rintro e w1 ⟨y, rfl, hy, nd, rfl⟩
  obtain ⟨py, cy, rfl, -, -, -⟩ := hy w (HBS.out w (Below.refl _ _))
  have HY := Lib.hid hy
  clear hy
  generalize (numR b s).length = ny at *
  have HN := rNum_t b s
  cases bad
  · cases ok
    · have HT : tNum b s = none := by have := HOK.out; cases h : tNum b s with | none => rfl | some q => rw [h] at this; cases this
      have HON : Only g w ((w.drewN nd).setCell ⟨g, 1, none⟩ (.bool true)) := ((Only.refl g w).drewN nd).setCell 1 _
      have HR2 : ((w.drewN nd).setCell ⟨g, 1, none⟩ (.bool true)).heap[g]? = some (.cells #[v, .bool true] 111 (0, 0)) := heap_setCell_same _ _ _ _ _ _ (show (w.drewN nd).heap[g]? = _ from HROW.out)
      have HFIN : Hid (rNumV (some b) s = 0 ∧ CStep w ((w.drewN nd).setCell ⟨g, 1, none⟩ (.bool true)) base g (rNumS (some b) s)) := Lib.hid (by
        rw [HN.1, HN.2]
        unfold numV
        rw [HT]
        exact ⟨rfl, ⟨hb, v, b, true, HR2, fun W hW => HBS.out W ((only_below HON hb (by omega)).trans hW), rfl⟩, HON, by simp⟩)
      clear HT HON HR2 HN
      go_wp2
      go_ret
      exact ⟨by show Ending.returned (.int .u64 0) = Ending.returned (.int .u64 (rNumV (some b) s : Int)); rw [HFIN.out.1]; rfl, HFIN.out.2⟩
    · have HON : Only g w (((w.drewN nd).setCell ⟨g, 1, none⟩ (.bool false)).setCell ⟨g, 0, none⟩ (.slice py ny cy)) := (((Only.refl g w).drewN nd).setCell 1 _).setCell 0 _
      have HR2 : (((w.drewN nd).setCell ⟨g, 1, none⟩ (.bool false)).setCell ⟨g, 0, none⟩ (.slice py ny cy)).heap[g]? = some (.cells #[.slice py ny cy, .bool false] 111 (0, 0)) := heap_setCell_same _ _ _ _ _ _ (heap_setCell_same _ _ _ _ _ _ (show (w.drewN nd).heap[g]? = _ from HROW.out))
      have HFIN : Hid (rNumV (some b) s = V ∧ CStep w (((w.drewN nd).setCell ⟨g, 1, none⟩ (.bool false)).setCell ⟨g, 0, none⟩ (.slice py ny cy)) base g (rNumS (some b) s)) := Lib.hid (by
        rw [HN.1, HN.2, HV.out]
        refine ⟨rfl, ⟨hb, _, numR b s, false, HR2, fun W hW => HY.out W (HBS.out W ((only_below HON hb (by omega)).trans hW)), ?_⟩, HON, by simp⟩
        unfold numR
        have := HOK.out
        cases h : tNum b s with
        | none => rw [h] at this; cases this
        | some q => rfl)
      clear HON HR2 HN
      go_wp2
      go_ret
      exact ⟨by show Ending.returned (.int .u64 (V : Int)) = Ending.returned (.int .u64 (rNumV (some b) s : Int)); rw [HFIN.out.1], HFIN.out.2⟩
  · have HON : Only g w ((w.drewN nd).setCell ⟨g, 1, none⟩ (.bool true)) := ((Only.refl g w).drewN nd).setCell 1 _
    have HR2 : ((w.drewN nd).setCell ⟨g, 1, none⟩ (.bool true)).heap[g]? = some (.cells #[v, .bool true] 111 (0, 0)) := heap_setCell_same _ _ _ _ _ _ (show (w.drewN nd).heap[g]? = _ from HROW.out)
    have HFIN : Hid (rNumV none s = 0 ∧ CStep w ((w.drewN nd).setCell ⟨g, 1, none⟩ (.bool true)) base g (rNumS none s)) := Lib.hid (by
      refine ⟨by unfold rNumV; split <;> rfl, ⟨hb, v, b, true, HR2, fun W hW => HBS.out W ((only_below HON hb (by omega)).trans hW), by unfold rNumS; split <;> rfl⟩, HON, by simp⟩)
    clear HON HR2 HN
    go_wp2
    go_ret
    exact ⟨by show Ending.returned (.int .u64 0) = Ending.returned (.int .u64 (rNumV none s : Int)); rw [HFIN.out.1]; rfl, HFIN.out.2⟩

set_option maxRecDepth 4000 in
set_option maxHeartbeats 1000000 in
theorem cCut_any (base g : Nat) (st : Option (List UInt8)) (s : Int) (w : World) (h : IsC w base g st) :
    Calls Tryz.prog 60 #[.pointer (some ⟨g, 0, none⟩), .int .i64 s] w fun e w' => ∃ x, e = .returned x ∧ (∀ W, Below base w' W → BS W x (rBy st s)) ∧ CStep w w' base g (rRest st s) := by
  have hlt := h.lt
  obtain ⟨hb, v, b, bad, hrow, hbs, rfl⟩ := h
  have hc := fun j => cell_of_row w g j _ _ _ hrow
  have hf := fun j => frozen_of_row w g j _ _ hrow
  have HROW := Lib.hid hrow
  have HBS := Lib.hid hbs
  have HTN := Lib.hid (rCut_any v b s w (hbs w (Below.refl _ _)))
  clear hrow hbs
  obtain ⟨ok, hok⟩ : ∃ ok, (tCut b s).isSome = ok := ⟨_, rfl⟩
  rw [hok] at HTN
  have HOK := Lib.hid hok
  clear hok
  go_enter Tryz.func60, Tryz.ntmps60
  go_wp2_with fail
  refine HTN.out.mono ?_
  rintro e w1 ⟨x, y, rfl, hy, nd, rfl⟩
  obtain ⟨py, cy, rfl, -, -, -⟩ := (hy w (HBS.out w (Below.refl _ _))).2
  have HY := Lib.hid hy
  clear hy
  generalize (cutY b s).length = ny at *
  cases bad
  · cases ok
    · have HON : Only g w ((w.drewN nd).setCell ⟨g, 1, none⟩ (.bool true)) := ((Only.refl g w).drewN nd).setCell 1 _
      have HR2 : ((w.drewN nd).setCell ⟨g, 1, none⟩ (.bool true)).heap[g]? = some (.cells #[v, .bool true] 111 (0, 0)) := heap_setCell_same _ _ _ _ _ _ (show (w.drewN nd).heap[g]? = _ from HROW.out)
      have HFIN : Hid (rBy (some b) s = [] ∧ CStep w ((w.drewN nd).setCell ⟨g, 1, none⟩ (.bool true)) base g (rRest (some b) s)) := Lib.hid (by
        have hno : ¬ (0 ≤ s ∧ s ≤ b.length) := fun h => by have := HOK.out; unfold tCut at this; rw [if_pos h] at this; cases this
        have h1 := rTake_bad (st := some b) (n := s) (fun l e => by injection e with e; subst e; exact hno)
        unfold rBy
        rw [h1.1, h1.2]
        exact ⟨rfl, ⟨hb, v, b, true, HR2, fun W hW => HBS.out W ((only_below HON hb (by omega)).trans hW), rfl⟩, HON, by simp⟩)
      clear HON HR2
      go_wp2
      go_ret
      exact ⟨_, rfl, fun W _ => by show BS W (.slice none 0 0) (rBy (some b) s); rw [HFIN.out.1]; exact BS.nil W, HFIN.out.2⟩
    · have HON : Only g w (((w.drewN nd).setCell ⟨g, 1, none⟩ (.bool false)).setCell ⟨g, 0, none⟩ (.slice py ny cy)) := (((Only.refl g w).drewN nd).setCell 1 _).setCell 0 _
      have HR2 : (((w.drewN nd).setCell ⟨g, 1, none⟩ (.bool false)).setCell ⟨g, 0, none⟩ (.slice py ny cy)).heap[g]? = some (.cells #[.slice py ny cy, .bool false] 111 (0, 0)) := heap_setCell_same _ _ _ _ _ _ (heap_setCell_same _ _ _ _ _ _ (show (w.drewN nd).heap[g]? = _ from HROW.out))
      have HFIN : Hid (cutX b s = rBy (some b) s ∧ CStep w (((w.drewN nd).setCell ⟨g, 1, none⟩ (.bool false)).setCell ⟨g, 0, none⟩ (.slice py ny cy)) base g (rRest (some b) s)) := Lib.hid (by
        have hyes : 0 ≤ s ∧ s ≤ b.length := by
          by_cases h : 0 ≤ s ∧ s ≤ b.length
          · exact h
          · have := HOK.out; unfold tCut at this; rw [if_neg h] at this; cases this
        refine ⟨?_, ⟨hb, _, cutY b s, false, HR2, fun W hW => (HY.out W (HBS.out W ((only_below HON hb (by omega)).trans hW))).2, ?_⟩, HON, by simp⟩
        · unfold cutX rBy rTake tCut; simp only [if_pos hyes]; rfl
        · unfold cutY rRest tCut; simp only [if_pos hyes]; rfl)
      have HON' := Lib.hid HON
      clear HON HR2
      go_wp2
      go_ret
      exact ⟨_, rfl, fun W hW => by show BS W x (rBy (some b) s); rw [← HFIN.out.1]; exact (HY.out W (HBS.out W ((only_below HON'.out hb (by omega)).trans hW))).1, HFIN.out.2⟩
  · have HON : Only g w ((w.drewN nd).setCell ⟨g, 1, none⟩ (.bool true)) := ((Only.refl g w).drewN nd).setCell 1 _
    have HR2 : ((w.drewN nd).setCell ⟨g, 1, none⟩ (.bool true)).heap[g]? = some (.cells #[v, .bool true] 111 (0, 0)) := heap_setCell_same _ _ _ _ _ _ (show (w.drewN nd).heap[g]? = _ from HROW.out)
    have HFIN : Hid (CStep w ((w.drewN nd).setCell ⟨g, 1, none⟩ (.bool true)) base g none) := Lib.hid ⟨⟨hb, v, b, true, HR2, fun W hW => HBS.out W ((only_below HON hb (by omega)).trans hW), rfl⟩, HON, by simp⟩
    clear HON HR2
    go_wp2
    go_ret
    exact ⟨_, rfl, fun W _ => BS.nil W, HFIN.out⟩
end Go.Proofs.YtbmphlpmipkpcaaGreat
end

section
set_option linter.unusedVariables false
set_option linter.unusedSimpArgs false
namespace Go.Proofs.YtbmphlpmipkpcaaGreat
open Go.RowKit

attribute [local go_sem ↓] ml_execLoad

attribute [local go_sem] ml_load loL_drew okL_drew

end Go.Proofs.YtbmphlpmipkpcaaGreat
end

section
namespace Go.Proofs.YtbmphlpmipkpcaaGreat.Post

/-- six amounts as cells -/
def amRow (am : List Int) : Array Value := (am.map (Value.int .i64)).toArray
theorem amRow_size (am : List Int) : (amRow am).size = am.length := by simp [amRow]
theorem amRow_at {am : List Int} {j : Nat} (h : j < am.length) : (amRow am)[j]? = some (.int .i64 (am.getD j 0)) := by
  unfold amRow; simp [h]
def outB (bd : Int) (n : Int) : Bool := decide (n < -bd) || decide (bd < n)
def idxOut (bd : Int) : List Int → Int → Int
  | [], _ => -1
  | z :: zs, i => if outB bd z = true then i else idxOut bd zs (i + 1)
def fit (c : UInt8) (n : Int) : Bool :=
  if c.toNat = 43 then decide (0 ≤ n) else if c.toNat = 45 then decide (n ≤ 0) else if c.toNat = 48 then decide (n = 0) else true
/-- what a kind's six amounts are like -/
def signs (k : Int) : List UInt8 :=
  if k = 1 then [43, 45, 48, 45, 48, 48] else if k = 2 then [45, 43, 48, 43, 48, 48] else if k = 3 then [48, 43, 45, 48, 48, 48]
  else if k = 4 then [45, 43, 48, 43, 45, 48] else if k = 5 then [43, 42, 48, 42, 45, 45] else []
def name (k : Int) : List UInt8 :=
  if k = 1 then [105, 115, 115, 117, 101] else if k = 2 then [118, 111, 105, 100] else if k = 3 then [102, 108, 121]
  else if k = 4 then [114, 101, 102, 117, 110, 100] else if k = 5 then [101, 120, 99, 104, 97, 110, 103, 101] else []
def fitAll : List UInt8 → List Int → Bool
  | c :: cs, n :: ns => fit c n && fitAll cs ns
  | _, _ => true
def sum : List Int → Int
  | [] => 0
  | n :: ns => n + sum ns
def cols (k : Int) (am : List Int) : Bool :=
  !(am.any (outB 1125899906842624)) && fitAll (signs k) am && decide (sum am = 0) && !(decide (k = 5) && decide (am.getD 0 0 ≠ 0) && decide (am.getD 5 0 ≠ 0))
def may (d t s k : Int) (am : List Int) : Bool :=
  decide (1 ≤ k) && decide (k ≤ 5) && cols k am && decide (0 ≤ d) && decide (d ≤ 1000000) && decide (1 ≤ s) && decide (s ≤ 200) && decide (Num.check t = 0)

theorem idxOut_any (bd : Int) (zs : List Int) (i : Int) (hi : 0 ≤ i) : decide (0 ≤ idxOut bd zs i) = zs.any (outB bd) := by
  induction zs generalizing i with
  | nil => simp [idxOut]
  | cons z zs ih =>
    unfold idxOut
    by_cases h : outB bd z = true
    · rw [if_pos h]; simp [h, hi]
    · rw [if_neg h, ih (i + 1) (by omega)]; simp [h]
theorem idxOut_miss {bd z : Int} (h : outB bd z = false) (zs : List Int) (i : Int) : idxOut bd (z :: zs) i = idxOut bd zs (i + 1) := by
  show (if outB bd z = true then i else idxOut bd zs (i + 1)) = _
  rw [h]; rfl
theorem idxOut_hit {bd z : Int} (h : outB bd z = true) (zs : List Int) (i : Int) : idxOut bd (z :: zs) i = i := by
  show (if outB bd z = true then i else idxOut bd zs (i + 1)) = _
  rw [h]; rfl
theorem fitAll_step {c : UInt8} {n : Int} {b : Bool} (h : fit c n = b) (cs : List UInt8) (ns : List Int) : fitAll (c :: cs) (n :: ns) = (b && fitAll cs ns) := by
  show (fit c n && fitAll cs ns) = _
  rw [h]
theorem sum_cons (n : Int) (ns : List Int) : sum (n :: ns) = n + sum ns := rfl
theorem any_in {bd : Int} {l : List Int} (h : l.any (outB bd) = false) {z : Int} (hz : z ∈ l) : -bd ≤ z ∧ z ≤ bd := by
  have := List.any_eq_false.1 h z hz
  unfold outB at this
  simp at this
  omega
/-- the reference's tables: may a kind's amounts be below 0, above 0 -/
def belowRow (k : Int) : List Bool :=
  if k = 1 then [false, true, false, true, false, false] else if k = 2 then [true, false, false, false, false, false] else if k = 3 then [false, false, true, false, false, false]
  else if k = 4 then [true, false, false, false, true, false] else [false, true, false, true, true, true]
def aboveRow (k : Int) : List Bool :=
  if k = 1 then [true, false, false, false, false, false] else if k = 2 then [false, true, false, true, false, false] else if k = 3 then [false, true, false, false, false, false]
  else if k = 4 then [false, true, false, true, false, false] else [true, true, false, true, false, false]
theorem fit_tables {k : Int} (h1 : 1 ≤ k) (h5 : k ≤ 5) (i : Nat) (hi : i < 6) (n : Int) :
    fit ((signs k).getD i 0) n = !((decide (n < 0) && !(belowRow k).getD i false) || (decide (0 < n) && !(aboveRow k).getD i false)) := by
  rcases (by omega : k = 1 ∨ k = 2 ∨ k = 3 ∨ k = 4 ∨ k = 5) with rfl | rfl | rfl | rfl | rfl <;>
    rcases (by omega : i = 0 ∨ i = 1 ∨ i = 2 ∨ i = 3 ∨ i = 4 ∨ i = 5) with rfl | rfl | rfl | rfl | rfl | rfl <;>
    (rw [Bool.eq_iff_iff]; simp [fit, signs, belowRow, aboveRow]; try omega)
theorem any_step {bd z : Int} {b : Bool} (h : outB bd z = b) (ns : List Int) : (z :: ns).any (outB bd) = (b || ns.any (outB bd)) := by rw [List.any_cons, h]
theorem signs_len {k : Int} (h1 : 1 ≤ k) (h5 : k ≤ 5) : (signs k).length = 6 := by
  rcases (by omega : k = 1 ∨ k = 2 ∨ k = 3 ∨ k = 4 ∨ k = 5) with rfl | rfl | rfl | rfl | rfl <;> rfl
theorem signs_none {k : Int} (h : k < 1 ∨ 5 < k) : signs k = [] := by
  unfold signs
  rw [if_neg (by omega), if_neg (by omega), if_neg (by omega), if_neg (by omega), if_neg (by omega)]
theorem signs_ascii (k : Int) : ∀ c ∈ signs k, c.toNat < 128 := by
  unfold signs
  intro c hc
  repeat' split at hc
  all_goals (simp at hc; try (rcases hc with h | h | h | h | h | h <;> subst h <;> decide))
  all_goals (try (rcases hc with h | h | h | h | h <;> subst h <;> decide))
  all_goals (try (rcases hc with h | h | h | h <;> subst h <;> decide))
  all_goals (try (rcases hc with h | h | h <;> subst h <;> decide))
theorem fit_plus {c : UInt8} (n : Int) (h : (c.toNat : Int) = 43) : fit c n = decide (0 ≤ n) := by unfold fit; rw [if_pos (by omega)]
theorem fit_minus {c : UInt8} (n : Int) (h : (c.toNat : Int) = 45) : fit c n = decide (n ≤ 0) := by unfold fit; rw [if_neg (by omega), if_pos (by omega)]
theorem fit_zero {c : UInt8} (n : Int) (h : (c.toNat : Int) = 48) : fit c n = decide (n = 0) := by unfold fit; rw [if_neg (by omega), if_neg (by omega), if_pos (by omega)]
theorem fit_star {c : UInt8} (n : Int) (h : ¬ (c.toNat : Int) = 43) (h' : ¬ (c.toNat : Int) = 45) (h'' : ¬ (c.toNat : Int) = 48) : fit c n = true := by unfold fit; rw [if_neg (by omega), if_neg (by omega), if_neg (by omega)]

end Go.Proofs.YtbmphlpmipkpcaaGreat.Post
end
