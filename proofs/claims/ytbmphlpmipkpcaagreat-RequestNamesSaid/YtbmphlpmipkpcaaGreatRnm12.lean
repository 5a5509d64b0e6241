/- Contracts of package wire's Writer: Bytes, Number, Int, Flag, Blob, Text, Count, Len, End. -/
import Derived.Test.YtbmphlpmipkpcaaGreatRnm11

set_option linter.unusedVariables false
set_option linter.unusedSimpArgs false
namespace Go.Proofs.YtbmphlpmipkpcaaGreat
open Go.RowKit

theorem IsW.mono {w : World} {base bw k k' : Nat} {st : Option (List UInt8)} (h : IsW w base bw k st) (hk : k ≤ k') : IsW w base bw k' st := by
  obtain ⟨hb, h⟩ := h
  refine ⟨hb, ?_⟩
  cases st with
  | none => exact h
  | some l =>
    obtain ⟨pv, ps, vs, h1, h2, h3, h4, h5⟩ := h
    exact ⟨pv, ps, vs, h1, h2, h3, by omega, h5⟩
theorem IsW.lt {w : World} {base bw k : Nat} {st : Option (List UInt8)} (h : IsW w base bw k st) : base ≤ bw ∧ bw < w.heap.size := by
  obtain ⟨hb, h⟩ := h
  refine ⟨hb, ?_⟩
  cases st with
  | none => exact block_lt h
  | some l => obtain ⟨pv, ps, vs, h1, _⟩ := h; exact block_lt h1
theorem IsW.below {w w' : World} {base bw k : Nat} {st : Option (List UInt8)} (h : IsW w base bw k st) (hw : Below w.heap.size w w') : IsW w' base bw k st := by
  have hlt := h.lt.2
  obtain ⟨hb, h⟩ := h
  refine ⟨hb, ?_⟩
  cases st with
  | none => exact (hw.block bw hlt).trans h
  | some l =>
    obtain ⟨pv, ps, vs, h1, h2, h3, h4, h5, h6⟩ := h
    exact ⟨pv, ps, vs, (hw.block bw hlt).trans h1, h2, h3, h4, own_below h5 hw, fun i x b hx hb => own_below (h6 i x b hx hb) hw⟩
theorem WStep.refl {w : World} {base bw k : Nat} {st : Option (List UInt8)} (h : IsW w base bw k st) : WStep w w base bw k st := ⟨h, Below.refl _ _, Kept.refl _ _⟩
theorem WStep.mono {w w' : World} {base bw k k' : Nat} {st : Option (List UInt8)} (h : WStep w w' base bw k st) (hk : k ≤ k') : WStep w w' base bw k' st := ⟨h.1.mono hk, h.2⟩
theorem WStep.trans {a w w' : World} {base bw k k' : Nat} {st st' : Option (List UInt8)} (h : WStep a w base bw k st) (h' : WStep w w' base bw k' st') : WStep a w' base bw k' st' := ⟨h'.1, h.2.1.trans h'.2.1, h.2.2.trans h'.2.2⟩
theorem WStep.pre {a w w' : World} {base bw k : Nat} {st : Option (List UInt8)} (h : Below a.heap.size a w) (hb : base ≤ a.heap.size) (h' : WStep w w' base bw k st) : WStep a w' base bw k st :=
  ⟨h'.1, (h.mono hb).trans h'.2.1, (Kept.of_below h).trans h'.2.2⟩

theorem wbytes_any (base bw k : Nat) (st : Option (List UInt8)) (v : Value) (b : List UInt8) (hk : k + 1 + b.length ≤ 536870912) (w : World) (h : IsW w base bw k st) (hv : BS w v b) :
    Calls Tryz.prog 90 #[.pointer (some ⟨bw, 0, none⟩), v] w fun e w' => e = .returned (.pointer (some ⟨bw, 0, none⟩)) ∧ WStep w w' base bw (k + 1 + b.length) (Wire.wBytes st b) := by
  cases st with
  | some l => exact wbytes_some base bw k l v b hk w h hv
  | none =>
    have H := Lib.hid (h.mono (show k ≤ k + 1 + b.length by omega))
    have hrow := h.2
    have hc := fun j => cell_of_row w bw j _ _ _ hrow
    obtain ⟨p, cap, rfl, -, -, -⟩ := hv
    clear h hrow
    generalize b.length = n at *
    go_enter Tryz.func90, Tryz.ntmps90
    go_wp2
    go_ret
    exact ⟨rfl, WStep.refl H.out⟩

/-- a slice of bytes that a writer (of blocks from base on) leaves alone -/
def BK (w : World) (base : Nat) (v : Value) (l : List UInt8) : Prop :=
  BS w v l ∧ (l ≠ [] → ∀ b, v.ownBlock = some b → b < base ∨ ∃ (cs : Array Value) (t : TypeId) (fr : Nat × Nat), w.heap[b]? = some (Obj.cells cs t fr) ∧ t ∉ WT)
theorem BK.nil (w : World) (base : Nat) : BK w base (.slice none 0 0) [] := ⟨BS.nil w, fun h => absurd rfl h⟩
theorem BK.step {w w' : World} {base bw k : Nat} {st : Option (List UInt8)} {v : Value} {l : List UInt8} (h : BK w base v l) (hw : WStep w w' base bw k st) : BK w' base v l := by
  obtain ⟨⟨p, cap, rfl, h1, h2, h3⟩, h4⟩ := h
  have key : l ≠ [] → ∀ b, (Value.slice p l.length cap).ownBlock = some b → (∀ j, b < w.heap.size → w'.cell? ⟨b, j, none⟩ = w.cell? ⟨b, j, none⟩) ∧ (b < base ∨ ∃ (cs : Array Value) (t : TypeId) (fr : Nat × Nat), w'.heap[b]? = some (Obj.cells cs t fr) ∧ t ∉ WT) := by
    intro hl b hb
    rcases h4 hl b hb with hlt | ⟨cs, t, fr, hh, ht⟩
    · exact ⟨fun j _ => hw.2.1.cell (p := ⟨b, j, none⟩) hlt, .inl hlt⟩
    · have := hw.2.2.block b cs t fr hh ht
      exact ⟨fun j _ => by rw [cell_of_row w' b j _ _ _ this, cell_of_row w b j _ _ _ hh], .inr ⟨cs, t, fr, this, ht⟩⟩
  refine ⟨⟨p, cap, rfl, h1, h2, fun hl => ?_⟩, fun hl b hb => (key hl b hb).2⟩
  obtain ⟨b, o, rfl, hb, hc⟩ := h3 hl
  exact ⟨b, o, rfl, Nat.lt_of_lt_of_le hb hw.2.2.size, fun i x hx => ((key hl b rfl).1 _ hb).trans (hc i x hx)⟩
theorem BK.below {w w' : World} {base : Nat} {v : Value} {l : List UInt8} (h : BK w base v l) (hb : Below w.heap.size w w') : BK w' base v l := by
  refine ⟨h.1.below hb, fun hl b hv => ?_⟩
  rcases h.2 hl b hv with hlt | ⟨cs, t, fr, hh, ht⟩
  · exact .inl hlt
  · exact .inr ⟨cs, t, fr, (hb.block b (block_lt hh)).trans hh, ht⟩
theorem BK.of_row {w : World} {base g : Nat} {o m c : Nat} {l : List UInt8} {cs : Array Value} {t : TypeId} {fr : Nat × Nat} (h : BS w (.slice (some ⟨g, o, none⟩) m c) l) (hg : w.heap[g]? = some (.cells cs t fr)) (ht : t ∉ WT) : BK w base (.slice (some ⟨g, o, none⟩) m c) l :=
  ⟨h, fun _ b hb => by injection hb with hb; simp at hb; subst hb; exact .inr ⟨cs, t, fr, hg, ht⟩⟩
theorem BK.of_own {w : World} {base b0 n : Nat} {v : Value} {l : List UInt8} (h : w.ownsRow b0 5 1 v n (bytesV l)) : BK w base v l := by
  have hbs := BS.of_own h
  refine ⟨hbs, fun _ b hb => ?_⟩
  rcases h.2 with ⟨rfl, _⟩ | ⟨g, cap, cur, rfl, _, hh, _⟩
  · cases hb
  · injection hb with hb; simp at hb; subst hb; exact .inr ⟨_, _, _, hh, by decide⟩
theorem BK.of_old {w : World} {base : Nat} {v : Value} {l : List UInt8} (h : BS w v l) (hb : w.heap.size ≤ base) : BK w base v l := by
  obtain ⟨p, cap, rfl, h1, h2, h3⟩ := h
  refine ⟨⟨p, cap, rfl, h1, h2, h3⟩, fun hl b hv => ?_⟩
  obtain ⟨g, o, rfl, hg, _⟩ := h3 hl
  injection hv with hv; simp at hv; subst hv
  exact .inl (by omega)
/-! ### Number -/
def rowB (l : List UInt8) : Array Value := (bytesV l).toArray
theorem rowB_at {l : List UInt8} {j : Nat} (h : j < l.length) : (rowB l)[j]? = some (.int .u8 ((l.getD j 0).toNat : Int)) := by
  unfold rowB; simp [bytesV, h, List.getD_eq_getElem?_getD]
theorem rowB_set (l : List UInt8) (j : Nat) (x : UInt8) : (rowB l).setIfInBounds j (.int .u8 (x.toNat : Int)) = rowB (l.set j x) := by
  unfold rowB bytesV; simp [List.map_set]
theorem BS.of_row {w : World} {g : Nat} {L : List UInt8} {t : TypeId} {fr : Nat × Nat} (h : w.heap[g]? = some (.cells (rowB L) t fr)) (o m cap : Nat) (hm : o + m ≤ L.length) (hc : m ≤ cap) (hcap : cap ≤ maxLen) :
    BS w (.slice (some ⟨g, o, none⟩) m cap) ((L.drop o).take m) := by
  have hl : ((L.drop o).take m).length = m := by rw [List.length_take, List.length_drop]; omega
  refine ⟨_, cap, by rw [hl], by omega, hcap, fun _ => ⟨g, o, rfl, block_lt h, fun i x hx => ?_⟩⟩
  have hi : i < m := by have := (List.getElem?_eq_some_iff.1 hx).1; omega
  rw [List.getElem?_take_of_lt hi, List.getElem?_drop] at hx
  rw [cell_of_row w g _ _ _ _ h]
  unfold rowB
  rw [List.getElem?_toArray, bytesV_at, hx]
  rfl
def rowE (N j : Nat) : List UInt8 := List.replicate (8 - j) 0 ++ Wire.be N j
theorem rowE_length (N j : Nat) (hj : j ≤ 8) : (rowE N j).length = 8 := by unfold rowE; rw [List.length_append, List.length_replicate, Wire.be_length]; omega
theorem rowE_set (N j : Nat) (hj : j < 8) : (rowE N j).set (7 - j) (UInt8.ofNat (N / 256 ^ j % 256)) = rowE N (j + 1) := by
  unfold rowE
  rw [Wire.be_cons]
  have h8 : 8 - j = (7 - j) + 1 := by omega
  have h7 : 8 - (j + 1) = 7 - j := by omega
  rw [h8, h7, List.replicate_succ', List.append_assoc, List.set_append_right _ _ (by simp)]
  simp

theorem byte_atW (N j : Nat) : Value.int .u8 ((N : Int) / 2 ^ (8 * j) % 256) = .int .u8 (((UInt8.ofNat (N / 256 ^ j % 256)).toNat : Nat) : Int) := by
  have h : (UInt8.ofNat (N / 256 ^ j % 256)).toNat = N / 256 ^ j % 256 := by rw [UInt8.toNat_ofNat']; omega
  rw [h, show (2 : Int) ^ (8 * j) = ((256 ^ j : Nat) : Int) from by rw [Int.pow_mul]; simp]
  simp
theorem wnum_at {st : Option (List UInt8)} {N s : Nat} (hs : Wire.maySize (s : Int) = true) : Wire.wNum st N (s : Int) = if decide (N < 256 ^ s) = true then Wire.wBytes st (Wire.be N s) else none := by
  unfold Wire.wNum Wire.wBytes
  rw [Int.toNat_natCast]
  by_cases h : N < 256 ^ s
  · rw [if_pos ⟨hs, h⟩, if_pos (by simpa using h)]
  · rw [if_neg (fun h' => h h'.2), if_neg (by simpa using h)]
theorem wnum_far {st : Option (List UInt8)} {N : Nat} {s : Int} (hs : Wire.maySize s = false) : Wire.wNum st N s = none := by
  unfold Wire.wNum
  rw [if_neg (by simp [hs])]
theorem row_bs {w : World} {g : Nat} {N s t cap : Nat} {ty : TypeId} {fr : Nat × Nat} (h : w.heap[g]? = some (.cells (rowB (Wire.be N (s + t))) ty fr)) (hc : s ≤ cap) (hcap : cap ≤ maxLen) : BS w (.slice (some ⟨g, 0, none⟩) s cap) ((Wire.be N (s + t)).take s) := by
  have := BS.of_row h 0 s cap (by rw [Wire.be_length]; omega) hc hcap
  simpa using this
theorem row_bs' {w : World} {g : Nat} {N s t cap : Nat} {ty : TypeId} {fr : Nat × Nat} (h : w.heap[g]? = some (.cells (rowB (Wire.be N (s + t))) ty fr)) (hc : t ≤ cap) (hcap : cap ≤ maxLen) : BS w (.slice (some ⟨g, s, none⟩) t cap) (Wire.be N t) := by
  have := BS.of_row h s t cap (by rw [Wire.be_length]; omega) hc hcap
  rwa [Wire.be_drop, List.take_of_length_le (by rw [Wire.be_length]; omega)] at this
theorem zeros_bs {w : World} {g s : Nat} {ty : TypeId} {fr : Nat × Nat} (h : w.heap[g]? = some (.cells (rowB (List.replicate s 0)) ty fr)) (hcap : s ≤ maxLen) : BS w (.slice (some ⟨g, 0, none⟩) s s) (List.replicate s 0) := by
  have := BS.of_row h 0 s s (by simp) (Nat.le_refl _) hcap
  simpa using this

set_option maxRecDepth 4000 in
set_option maxHeartbeats 1000000 in
theorem wnumber_any (base bw k : Nat) (st : Option (List UInt8)) (N : Nat) (hN : N < 18446744073709551616) (s : Int) (hk : k + 9 ≤ 536870912) (w : World) (h : IsW w base bw k st) :
    Calls Tryz.prog 77 #[.pointer (some ⟨bw, 0, none⟩), .int .u64 (N : Int), .int .i64 s] w fun e w' => e = .returned (.pointer (some ⟨bw, 0, none⟩)) ∧ WStep w w' base bw (k + 9) (Wire.wNum st N s) := by
  have HI := Lib.hid h
  have hlt := h.lt
  have HLT := Lib.hid hlt
  clear h hlt
  go_enter Tryz.func77, Tryz.ntmps77
  go_wp2
  go_loopw [10] (fun i wr => ∃ j : Nat, j ≤ 8 ∧ i = .int .i64 j ∧ wr = w.alloc (.cells (rowB (rowE N j)) 201)) (fun i _ => 8 - (intOf i).toNat)
  case atStart => exact ⟨0, by omega, rfl, rfl⟩
  case round =>
    obtain ⟨j, hj, rfl, rfl⟩ := hrel
    by_cases hj8 : j < 8
    · have hck := rowB_at (l := rowE N j) (j := 7 - j) (by rw [rowE_length N j hj]; omega)
      go_wp2
      go_roundw
      case rel => exact ⟨j + 1, by omega, by go_num, by rw [byte_atW, rowB_set, rowE_set N j hj8]⟩
      case measure => simp [intOf]; omega
    · obtain rfl : j = 8 := by omega
      have hrow : rowE N 8 = Wire.be N 8 := by unfold rowE; simp
      rw [hrow]
      have hH : (w.alloc (.cells (rowB (Wire.be N 8)) 201)).heap[w.heap.size]? = some (.cells (rowB (Wire.be N 8)) 201 (0, 0)) := new_rowW _ _ _ rfl
      have HH := Lib.hid hH
      have HF := Lib.hid (HI.out.below (Below.refl w.heap.size w |>.alloc (Nat.le_refl _) (.cells (rowB (Wire.be N 8)) 201)))
      clear hH hrow
      have hN8 : Hid (N < 256 ^ 8) := Lib.hid (by simpa using hN)
      by_cases h1 : s = 1
      · subst h1
        have HW : Hid (Wire.wNum st N ((1 : Nat) : Int) = _) := Lib.hid (wnum_at (by decide))
        have HD := Lib.hid (Wire.ahead_zero (n := N) (s := 7) (t := 1) hN8.out)
        have hmk : ∀ W : World, (Instr.makeSlice 47 (.int .i64 7) (.int .i64 7)).run Tryz.prog W = .ok (.slice (some ⟨W.heap.size, 0, none⟩) 7 7) (W.alloc (.cells (rowB (List.replicate 7 0)) 5)) := fun _ => by kernel_rfl
        generalize decide (N < 256 ^ 1) = q at *
        go_wp2_with fail
        refine (equal_any _ _ ((Wire.be N (7 + 1)).take 7) (List.replicate 7 0) _ ((row_bs (cap := 8) HH.out (by omega) (by decide)).alloc _) (zeros_bs (new_rowW _ _ (w.heap.size + 1) (by simp)) (by decide))).mono ?_
        rintro e w1 ⟨rfl, rfl⟩
        rw [HD.out]
        have HB := Lib.hid (((Below.refl w.heap.size w).alloc (Nat.le_refl _) (.cells (rowB (Wire.be N 8)) 201)).alloc (by simp) (.cells (rowB (List.replicate 7 0)) 5))
        have HF2 := Lib.hid (HI.out.below HB.out)
        cases q
        · go_wp2_with fail
          refine (wfail_any base bw k st _ HF2.out).mono ?_
          rintro e w1 ⟨rfl, hw1⟩
          have HS := Lib.hid (WStep.pre HB.out (by have := HLT.out; omega) (hw1 (k + 9)))
          clear hw1
          go_wp2
          go_ret
          exact ⟨rfl, by rw [show ((1 : Int)) = ((1 : Nat) : Int) from rfl, HW.out]; exact HS.out⟩
        · go_wp2_with fail
          refine (wbytes_any base bw k st _ (Wire.be N 1) (by rw [Wire.be_length]; omega) _ HF2.out ((row_bs' (s := 7) HH.out (by omega) (by decide)).alloc _)).mono ?_
          rintro e w1 ⟨rfl, hw1⟩
          have HS := Lib.hid ((WStep.pre HB.out (by have := HLT.out; omega) hw1).mono (show _ ≤ k + 9 by rw [Wire.be_length]; omega))
          clear hw1
          go_wp2
          go_ret
          exact ⟨rfl, by rw [show ((1 : Int)) = ((1 : Nat) : Int) from rfl, HW.out]; exact HS.out⟩
      by_cases h2 : s = 2
      · subst h2
        have HW : Hid (Wire.wNum st N ((2 : Nat) : Int) = _) := Lib.hid (wnum_at (by decide))
        have HD := Lib.hid (Wire.ahead_zero (n := N) (s := 6) (t := 2) hN8.out)
        have hmk : ∀ W : World, (Instr.makeSlice 47 (.int .i64 6) (.int .i64 6)).run Tryz.prog W = .ok (.slice (some ⟨W.heap.size, 0, none⟩) 6 6) (W.alloc (.cells (rowB (List.replicate 6 0)) 5)) := fun _ => by kernel_rfl
        generalize decide (N < 256 ^ 2) = q at *
        go_wp2_with fail
        refine (equal_any _ _ ((Wire.be N (6 + 2)).take 6) (List.replicate 6 0) _ ((row_bs (cap := 8) HH.out (by omega) (by decide)).alloc _) (zeros_bs (new_rowW _ _ (w.heap.size + 1) (by simp)) (by decide))).mono ?_
        rintro e w1 ⟨rfl, rfl⟩
        rw [HD.out]
        have HB := Lib.hid (((Below.refl w.heap.size w).alloc (Nat.le_refl _) (.cells (rowB (Wire.be N 8)) 201)).alloc (by simp) (.cells (rowB (List.replicate 6 0)) 5))
        have HF2 := Lib.hid (HI.out.below HB.out)
        cases q
        · go_wp2_with fail
          refine (wfail_any base bw k st _ HF2.out).mono ?_
          rintro e w1 ⟨rfl, hw1⟩
          have HS := Lib.hid (WStep.pre HB.out (by have := HLT.out; omega) (hw1 (k + 9)))
          clear hw1
          go_wp2
          go_ret
          exact ⟨rfl, by rw [show ((2 : Int)) = ((2 : Nat) : Int) from rfl, HW.out]; exact HS.out⟩
        · go_wp2_with fail
          refine (wbytes_any base bw k st _ (Wire.be N 2) (by rw [Wire.be_length]; omega) _ HF2.out ((row_bs' (s := 6) HH.out (by omega) (by decide)).alloc _)).mono ?_
          rintro e w1 ⟨rfl, hw1⟩
          have HS := Lib.hid ((WStep.pre HB.out (by have := HLT.out; omega) hw1).mono (show _ ≤ k + 9 by rw [Wire.be_length]; omega))
          clear hw1
          go_wp2
          go_ret
          exact ⟨rfl, by rw [show ((2 : Int)) = ((2 : Nat) : Int) from rfl, HW.out]; exact HS.out⟩
      by_cases h4 : s = 4
      · subst h4
        have HW : Hid (Wire.wNum st N ((4 : Nat) : Int) = _) := Lib.hid (wnum_at (by decide))
        have HD := Lib.hid (Wire.ahead_zero (n := N) (s := 4) (t := 4) hN8.out)
        have hmk : ∀ W : World, (Instr.makeSlice 47 (.int .i64 4) (.int .i64 4)).run Tryz.prog W = .ok (.slice (some ⟨W.heap.size, 0, none⟩) 4 4) (W.alloc (.cells (rowB (List.replicate 4 0)) 5)) := fun _ => by kernel_rfl
        generalize decide (N < 256 ^ 4) = q at *
        go_wp2_with fail
        refine (equal_any _ _ ((Wire.be N (4 + 4)).take 4) (List.replicate 4 0) _ ((row_bs (cap := 8) HH.out (by omega) (by decide)).alloc _) (zeros_bs (new_rowW _ _ (w.heap.size + 1) (by simp)) (by decide))).mono ?_
        rintro e w1 ⟨rfl, rfl⟩
        rw [HD.out]
        have HB := Lib.hid (((Below.refl w.heap.size w).alloc (Nat.le_refl _) (.cells (rowB (Wire.be N 8)) 201)).alloc (by simp) (.cells (rowB (List.replicate 4 0)) 5))
        have HF2 := Lib.hid (HI.out.below HB.out)
        cases q
        · go_wp2_with fail
          refine (wfail_any base bw k st _ HF2.out).mono ?_
          rintro e w1 ⟨rfl, hw1⟩
          have HS := Lib.hid (WStep.pre HB.out (by have := HLT.out; omega) (hw1 (k + 9)))
          clear hw1
          go_wp2
          go_ret
          exact ⟨rfl, by rw [show ((4 : Int)) = ((4 : Nat) : Int) from rfl, HW.out]; exact HS.out⟩
        · go_wp2_with fail
          refine (wbytes_any base bw k st _ (Wire.be N 4) (by rw [Wire.be_length]; omega) _ HF2.out ((row_bs' (s := 4) HH.out (by omega) (by decide)).alloc _)).mono ?_
          rintro e w1 ⟨rfl, hw1⟩
          have HS := Lib.hid ((WStep.pre HB.out (by have := HLT.out; omega) hw1).mono (show _ ≤ k + 9 by rw [Wire.be_length]; omega))
          clear hw1
          go_wp2
          go_ret
          exact ⟨rfl, by rw [show ((4 : Int)) = ((4 : Nat) : Int) from rfl, HW.out]; exact HS.out⟩
      by_cases h8 : s = 8
      · subst h8
        have HW : Hid (Wire.wNum st N ((8 : Nat) : Int) = _) := Lib.hid (wnum_at (by decide))
        have HD := Lib.hid (Wire.ahead_zero (n := N) (s := 0) (t := 8) hN8.out)
        have hmk : ∀ W : World, (Instr.makeSlice 47 (.int .i64 0) (.int .i64 0)).run Tryz.prog W = .ok (.slice (some ⟨W.heap.size, 0, none⟩) 0 0) (W.alloc (.cells (rowB (List.replicate 0 0)) 5)) := fun _ => by kernel_rfl
        generalize decide (N < 256 ^ 8) = q at *
        go_wp2_with fail
        refine (equal_any _ _ ((Wire.be N (0 + 8)).take 0) (List.replicate 0 0) _ ((row_bs (cap := 8) HH.out (by omega) (by decide)).alloc _) (zeros_bs (new_rowW _ _ (w.heap.size + 1) (by simp)) (by decide))).mono ?_
        rintro e w1 ⟨rfl, rfl⟩
        rw [HD.out]
        have HB := Lib.hid (((Below.refl w.heap.size w).alloc (Nat.le_refl _) (.cells (rowB (Wire.be N 8)) 201)).alloc (by simp) (.cells (rowB (List.replicate 0 0)) 5))
        have HF2 := Lib.hid (HI.out.below HB.out)
        cases q
        · go_wp2_with fail
          refine (wfail_any base bw k st _ HF2.out).mono ?_
          rintro e w1 ⟨rfl, hw1⟩
          have HS := Lib.hid (WStep.pre HB.out (by have := HLT.out; omega) (hw1 (k + 9)))
          clear hw1
          go_wp2
          go_ret
          exact ⟨rfl, by rw [show ((8 : Int)) = ((8 : Nat) : Int) from rfl, HW.out]; exact HS.out⟩
        · go_wp2_with fail
          refine (wbytes_any base bw k st _ (Wire.be N 8) (by rw [Wire.be_length]; omega) _ HF2.out ((row_bs' (s := 0) HH.out (by omega) (by decide)).alloc _)).mono ?_
          rintro e w1 ⟨rfl, hw1⟩
          have HS := Lib.hid ((WStep.pre HB.out (by have := HLT.out; omega) hw1).mono (show _ ≤ k + 9 by rw [Wire.be_length]; omega))
          clear hw1
          go_wp2
          go_ret
          exact ⟨rfl, by rw [show ((8 : Int)) = ((8 : Nat) : Int) from rfl, HW.out]; exact HS.out⟩
      have hs1 : (s == 1) = false := by simpa using h1
      have hs2 : (s == 2) = false := by simpa using h2
      have hs4 : (s == 4) = false := by simpa using h4
      have hs8 : (s == 8) = false := by simpa using h8
      have HW : Hid (Wire.wNum st N s = none) := Lib.hid (wnum_far (by unfold Wire.maySize; simp [h1, h2, h4, h8]))
      clear h1 h2 h4 h8
      go_wp2_with fail
      refine (wfail_any base bw k st _ HF.out).mono ?_
      rintro e w1 ⟨rfl, hw1⟩
      have HS := Lib.hid (WStep.pre ((Below.refl w.heap.size w).alloc (Nat.le_refl _) _) (by have := HLT.out; omega) (hw1 (k + 9)))
      rw [← HW.out] at HS
      clear hw1
      go_wp2
      go_ret
      exact ⟨rfl, HS.out⟩
end Go.Proofs.YtbmphlpmipkpcaaGreat
