/- Plain words: the text of a number, and of a posting; no program in sight. The library's table of powers of ten, as it is laid; contracts of strconv.Itoa and FormatInt at base 10 over it. Contracts: strconv.FormatUint at base 10; a strings.Builder of the call's own that is written (copyCheck, WriteString). -/
import Derived.Test.YtellhmbebimenaaDoorLr29
import Derived.Test.YtellhmbebimenaaDoorLr13
import Derived.Lib.ItoaNum
import Derived.Lib.Join
import Derived.Test.YtellhmbebimenaaDoorShelf
import Derived.Test.YtellhmbebimenaaDoorRows
import Derived.Lib.AppendIntMem
import Derived.Lib.LaidTab
import Derived.Lib.LaidU8
import Derived.LaidMore
import Derived.Test.YtellhmbebimenaaDoorLr18
import Derived.Test.YtellhmbebimenaaDoorLr3
import Derived.Test.YtellhmbebimenaaDoorLr14
import Derived.Lib.Builder
import Derived.Lib.AppendStr
import Derived.Lib.UnsafeStr
import Derived.Lib.Walk
import Derived.Lib.ItoaMem
import Derived.WalkKit
import Derived.BigCall
import Derived.BigGuard
import Derived.OwnWalk

section
set_option linter.unusedVariables false
namespace Go.Proofs.YtellhmbebimenaaDoor

theorem decDigits_digits (n : Nat) : Lib.decDigits n = Dec.digits n := by
  induction n using Nat.strongRecOn with
  | _ n ih =>
    rw [Lib.decDigits, Dec.digits]
    by_cases h : n < 10
    · rw [dif_pos h, if_pos h]; unfold Dec.dig; rw [Nat.mod_eq_of_lt h]
    · rw [dif_neg h, if_neg h, ih _ (by omega)]; rfl
namespace Post
/-- a whole number's text -/
def sdig (n : Int) : List UInt8 := if n < 0 then 45 :: Dec.digits n.natAbs else Dec.digits n.toNat
theorem sdig_itoa (n : Int) : Lib.itoa n = sdig n := by
  unfold Lib.itoa sdig; rw [decDigits_digits, decDigits_digits]
theorem dig_len (n : Nat) (h : n < 100000000000000000000) : (Dec.digits n).length ≤ 20 := Dec.digits_length_le n 19 (by omega)
theorem sdig_len (n : Int) (h : -9223372036854775808 ≤ n ∧ n ≤ 9223372036854775807) : (sdig n).length ≤ 21 := by
  unfold sdig
  split
  · have := dig_len n.natAbs (by omega); rw [List.length_cons]; omega
  · have := dig_len n.toNat (by omega); omega
/-- the amounts' letters -/
def letters : List UInt8 := [67, 76, 82, 84, 80, 86]
def tpart (am : List Int) (i : Nat) : List (List UInt8) := if am.getD i 0 = 0 then [] else [letters.getD i 0 :: sdig (am.getD i 0)]
def tparts (am : List Int) (k : Nat) : List (List UInt8) := (List.range k).flatMap (tpart am)
theorem tparts_succ (am : List Int) (k : Nat) : tparts am (k + 1) = tparts am k ++ tpart am k := by
  unfold tparts; rw [List.range_succ, List.flatMap_append]; simp
theorem tparts_zero (am : List Int) : tparts am 0 = [] := rfl
theorem tpart_len (am : List Int) (k : Nat) : (tpart am k).length ≤ 1 := by unfold tpart; split <;> simp
theorem tparts_len (am : List Int) : ∀ k, (tparts am k).length ≤ k
  | 0 => by simp [tparts]
  | k + 1 => by rw [tparts_succ, List.length_append]; have := tparts_len am k; have := tpart_len am k; omega
/-- the first words -/
def heads (d t s k : Int) : List (List UInt8) := [name k, Dec.digits t.toNat, sdig s, sdig d]
def textJ (d t s k : Int) (am : List Int) (j : Nat) : List UInt8 := Lib.join (heads d t s k ++ tparts am j) [32]
def textL (d t s k : Int) (am : List Int) : List UInt8 := textJ d t s k am 6
theorem textJ_zero (d t s k : Int) (am : List Int) : textJ d t s k am 0 = ((((((name k ++ [32]) ++ Dec.digits t.toNat) ++ [32]) ++ sdig s) ++ [32]) ++ sdig d) := by
  unfold textJ heads
  rw [tparts_zero, List.append_nil, Lib.join_cons]
  unfold Lib.joinTail
  simp [List.append_assoc]
theorem joinTail_append (sep : List UInt8) (a b : List (List UInt8)) : Lib.joinTail sep (a ++ b) = Lib.joinTail sep a ++ Lib.joinTail sep b := by
  unfold Lib.joinTail; rw [List.map_append, List.flatten_append]
theorem textJ_succ (d t s k : Int) (am : List Int) (j : Nat) : textJ d t s k am (j + 1) = textJ d t s k am j ++ (if am.getD j 0 = 0 then [] else (32 :: [letters.getD j 0]) ++ sdig (am.getD j 0)) := by
  unfold textJ heads
  rw [tparts_succ]
  simp only [List.cons_append, List.nil_append]
  rw [Lib.join_cons, Lib.join_cons]
  rw [show ∀ (a b c : List UInt8) (l m : List (List UInt8)), (a :: b :: c :: (l ++ m)) = (a :: b :: c :: l) ++ m from fun _ _ _ _ _ => rfl, joinTail_append, List.append_assoc]
  congr 2
  unfold tpart
  split
  · rfl
  · simp [Lib.joinTail]
theorem name_len (k : Int) : (name k).length ≤ 8 := by
  unfold name; repeat' split
  all_goals decide
theorem textJ_len (d t s k : Int) (am : List Int) (hd : -9223372036854775808 ≤ d ∧ d ≤ 9223372036854775807) (hs : -9223372036854775808 ≤ s ∧ s ≤ 9223372036854775807) (ht : 0 ≤ t ∧ t ≤ 18446744073709551615) (ha : ∀ x ∈ am, -9223372036854775808 ≤ x ∧ x ≤ 9223372036854775807) :
    ∀ j, (textJ d t s k am j).length ≤ 80 + 24 * j
  | 0 => by
    rw [textJ_zero]
    have h1 := name_len k
    have h2 := dig_len t.toNat (by omega)
    have h3 := sdig_len s hs
    have h4 := sdig_len d hd
    simp only [List.length_append, List.length_cons, List.length_nil]
    omega
  | j + 1 => by
    have ih := textJ_len d t s k am hd hs ht ha j
    rw [textJ_succ, List.length_append]
    split
    · simp only [List.length_nil]; omega
    · have : -9223372036854775808 ≤ am.getD j 0 ∧ am.getD j 0 ≤ 9223372036854775807 := by
        rw [List.getD_eq_getElem?_getD]
        rcases Nat.lt_or_ge j am.length with h | h
        · rw [List.getElem?_eq_getElem h]; exact ha _ (List.getElem_mem h)
        · rw [List.getElem?_eq_none h]; simp
      have := sdig_len _ this
      simp only [List.length_append, List.length_cons, List.length_nil]
      omega
/-- a posting's text -/
def textB (d t s k : Int) (am : List Int) : ByteArray := if may d t s k am = true then ⟨(textL d t s k am).toArray⟩ else ⟨#[]⟩
end Post
end Go.Proofs.YtellhmbebimenaaDoor
end

section
set_option linter.unusedVariables false
set_option linter.unusedSimpArgs false
namespace Go.Proofs.YtellhmbebimenaaDoor
open Go.RowKit Go.ChangeShapes

/-- the table lies as its initialiser lays it -/
def Tab (w : World) : Prop := Lib.TabIs Tryd.prog w "internal/strconv.uint64pow10" .u64 Lib.pow10Tab
theorem Tab.below {w w' : World} (h : Tab w) (hb : Below w.heap.size w w') : Tab w' := Lib.tabBelow_of_tabIs h w' hb
theorem below_grow (w : World) (k : Nat) (os : Array Obj) : Below w.heap.size w (Sort.grow (w.drewN k) os) := by
  refine ⟨rfl, rfl, rfl, ?_, fun i hi => ?_⟩
  · show w.heap.size ≤ (w.heap ++ os).size
    simp
  · show (w.heap ++ os)[i]? = _
    rw [Array.getElem?_append_left hi]
theorem itoa_any (n : Int) (h0 : -9223372036854775808 ≤ n) (h1 : n ≤ 9223372036854775807) (w : World) (ht : Tab w) :
    Calls Tryd.prog 73 #[.int .i64 n] w fun e w' => e = .returned (.string ⟨(Post.sdig n).toArray⟩) ∧ Below w.heap.size w w' :=
  (Tryd.strconv_Itoa n h0 h1 w ht).mono fun e w' ⟨he, k, os, hw⟩ => ⟨by rw [he, Post.sdig_itoa], by rw [hw]; exact below_grow w k os⟩
theorem fint_any (n : Int) (h0 : -9223372036854775808 ≤ n) (h1 : n ≤ 9223372036854775807) (w : World) (ht : Tab w) :
    Calls Tryd.prog 74 #[.int .i64 n, .int .i64 10] w fun e w' => e = .returned (.string ⟨(Post.sdig n).toArray⟩) ∧ Below w.heap.size w w' :=
  (Tryd.strconv_FormatInt_10 n h0 h1 w ht).mono fun e w' ⟨he, k, os, hw⟩ => ⟨by rw [he, Post.sdig_itoa], by rw [hw]; exact below_grow w k os⟩
theorem gTab : Tryd.prog.globalNamed "internal/strconv.uint64pow10" = some 0 := by kernel_rfl
theorem tTab : (Tryd.prog.globals[0]?).map (·.type) = some 210 := by kernel_rfl
/-- out of the laid list -/
theorem tab_of_laid {W : World} {l : List (String × DataW Unit)} (h : laidMet Tryd.prog l W) (hm : ("internal/strconv.uint64pow10", Rows.laid_internal_strconv_uint64pow10) ∈ l) : Tab W := by
  obtain ⟨g, t, cs, fuel, p, hg, hty, hvar, hd⟩ := Lib.laidMet.reads h hm
  have e : (Rows.laid_internal_strconv_uint64pow10 : DataW Unit) = Lib.tabData .u64 Lib.pow10Tab := by kernel_rfl
  rw [e] at hd
  obtain rfl := Option.some.inj (gTab.symm.trans hg)
  obtain rfl := Option.some.inj (tTab.symm.trans hty)
  unfold Tab Lib.TabIs
  rw [hvar, ← Lib.cells_of_tab Tryd.underlying210 Tryd.underlying22 (by kernel_rfl) (by kernel_rfl) hd]
end Go.Proofs.YtellhmbebimenaaDoor
end

section
set_option linter.unusedVariables false
set_option linter.unusedSimpArgs false
namespace Go.Proofs.YtellhmbebimenaaDoor
open Go.RowKit Go.Sort Go.Shelf

theorem holds_zero0 (w : World) (T : TypeId) (nd : Nat) (hs : nd ≤ 24) : Holds (fun (b : UInt8) => Value.int .u8 (b.toNat : Int)) (w.alloc (.cells Lib.zeros24 T)) w.heap.size 0 (Array.replicate nd (0 : UInt8)) := fun j hj => by
  have hj' : j < nd := by simpa using hj
  refine ⟨?_, World.frozen?_alloc_new _ _ _ _⟩
  rw [World.cell?_alloc_new, Lib.zeros24_at _ (by omega), getElem!_pos _ j hj]
  simp
theorem fin_zero (w : World) (o : Obj) (dk : Array UInt8) (k : Nat) : ∃ os, (putRow (fun (b : UInt8) => Value.int .u8 (b.toNat : Int)) (w.alloc o) w.heap.size 0 dk).drewN k = grow (w.drewN k) os := by
  rw [alloc_eq_grow]
  obtain ⟨os', _, e⟩ := putRow_grow_new (fun (b : UInt8) => Value.int .u8 (b.toNat : Int)) w #[o] w.heap.size 0 dk (Nat.le_refl _)
  exact ⟨os', by rw [e]; rfl⟩
set_option maxHeartbeats 3200000 in
set_option maxRecDepth 100000 in
theorem iuint_any (u : Nat) (hu64 : u < 18446744073709551616) (w : World) (ht : Tab w) :
    Calls Tryd.prog 101 #[.int .u64 (u : Int), .int .i64 10] w fun e w' => e = .returned (.string ⟨(Dec.digits u).toArray⟩) ∧ Below w.heap.size w w' := by
  by_cases hs : u < 100
  · go_enter Tryd.func101, Tryd.ntmps101
    go_wp2_with (go_at_call 150; refine (Tryd.internal_strconv_small u hs _).mono ?_; rintro e w' ⟨rfl, rfl⟩)
    go_ret
    exact ⟨by rw [decDigits_digits]; rfl, Below.refl _ _⟩
  · have hu1 : 1 ≤ u := by omega
    have hnd20 : Lib.nDigits u ≤ 20 := by have := Lib.numDigits_eq u hu1 hu64; split at this <;> omega
    have hb3 : Lib.nDigits u ≤ 24 := by omega
    have hal : Tryd.prog.arrayLen 194 = 24 := by kernel_rfl
    have hsl1 : ∀ W, (Instr.sliceAt 194 (.pointer (some ⟨w.heap.size, 0, none⟩)) none (some (.int .i64 (Lib.nDigits u : Int))) none).run Tryd.prog W = .ok (.slice (some ⟨w.heap.size, 0, none⟩) (Lib.nDigits u) 24) W := fun W => by
      rw [run_sliceAt_array_h W 194 ⟨w.heap.size, 0, none⟩ (by kernel_rfl) .i64 (Lib.nDigits u : Int) (by omega) (by rw [hal]; omega)]
      go_simp
    have hH0 := holds_zero0 w 194 (Lib.nDigits u) (by omega)
    have hfmt := Tryd.internal_strconv_formatBase10 w.heap.size 0 24 u (Array.replicate (Lib.nDigits u) 0) (w.alloc (.cells Lib.zeros24 194)) hH0 (by rw [Array.size_replicate]; exact Lib.lt_pow_nDigits u) hu64 (by rw [Array.size_replicate]; omega)
    rw [Array.size_replicate] at hfmt
    have HH0 := Lib.hid hH0
    have HT := Lib.hid ht
    clear hH0 hal ht
    go_enter Tryd.func101, Tryd.ntmps101
    go_wp2_with (go_at_call 151; refine (Tryd.internal_strconv_numDigits u hu1 hu64 _ (Lib.tabIs_alloc HT.out _)).mono ?_; rintro e w' ⟨rfl, rfl⟩)
    go_at_call 152
    refine hfmt.mono ?_
    rintro e w' ⟨rfl, k, v', dk, rfl, hF⟩
    have hcv : (convert 38 9 (.slice (some ⟨w.heap.size, 0, none⟩) (Lib.nDigits u) 24)).run Tryd.prog ((putRow (fun (b : UInt8) => Value.int .u8 (b.toNat : Int)) (w.alloc (.cells Lib.zeros24 194)) w.heap.size 0 dk).drewN k) = .ok (.string ⟨(Lib.decDigits u).toArray⟩) ((putRow (fun (b : UInt8) => Value.int .u8 (b.toNat : Int)) (w.alloc (.cells Lib.zeros24 194)) w.heap.size 0 dk).drewN k) := by
      have h := run_convert_bytes_back (P := Tryd.prog) ((putRow (fun (b : UInt8) => Value.int .u8 (b.toNat : Int)) (w.alloc (.cells Lib.zeros24 194)) w.heap.size 0 dk).drewN k) 38 9 5 ⟨w.heap.size, 0, none⟩ 24 (Lib.decDigits u) Tryd.underlying38 Tryd.underlying5 Tryd.underlying9 (fun j hj => by
        rw [Lib.row_is_numeral hF j hj, Lib.add_plain, World.cell?_drewN]
        exact cell?_putRow (fun (b : UInt8) => Value.int .u8 (b.toNat : Int)) _ w.heap.size 0 _ dk HH0.out (by rw [hF.size, Array.size_replicate]) j (by rw [hF.size]; rw [Lib.decDigits_length] at hj; exact hj))
      rw [Lib.decDigits_length] at h
      exact h
    go_wp2
    go_ret
    obtain ⟨os, eo⟩ := fin_zero w (.cells Lib.zeros24 194) dk k
    exact ⟨by rw [decDigits_digits]; rfl, by rw [eo]; exact below_grow w k os⟩
theorem fuint_any (u : Nat) (hu64 : u < 18446744073709551616) (w : World) (ht : Tab w) :
    Calls Tryd.prog 49 #[.int .u64 (u : Int), .int .i64 10] w fun e w' => e = .returned (.string ⟨(Dec.digits u).toArray⟩) ∧ Below w.heap.size w w' := by
  have HC := Lib.hid (iuint_any u hu64 w ht)
  clear ht
  go_enter Tryd.func49, Tryd.ntmps49
  go_wp2_with (go_at_call 101; refine HC.out.mono ?_; rintro e w' ⟨rfl, hb⟩)
  go_ret
  exact ⟨rfl, hb⟩

/-- what a builder writes to -/
abbrev BT : List TypeId := [83, 5]
/-- a builder of the call's own that holds these bytes -/
def IsB (B b : Nat) (l : List UInt8) (w : World) : Prop := Lib.IsBuilder 83 5 B b (Lib.byteCells l) w
set_option maxHeartbeats 1000000 in
set_option maxRecDepth 100000 in
theorem copyCheck_used (b : Nat) (w : World) (h0 : w.cell? ⟨b, 0, none⟩ = some (.pointer (some ⟨b, 0, none⟩))) :
    Calls Tryd.prog 100 #[.pointer (some ⟨b, 0, none⟩)] w fun e w' => e = .returned (.tuple #[]) ∧ w' = w := by
  obtain ⟨j, hj, -⟩ := Option.map_eq_some_iff.1 (show (Tryd.prog.info? 83).map (·.size) = some 2 by kernel_rfl)
  go_enter Tryd.func100, Tryd.ntmps100
  go_wp2
  rw [Lib.run_neq_ptr_same w _ Tryd.underlying81 hj]
  go_wp2
  go_end0
  exact ⟨rfl, rfl⟩
set_option maxHeartbeats 1000000 in
set_option maxRecDepth 100000 in
theorem copyCheck_fresh (b : Nat) (w : World) (h0 : w.cell? ⟨b, 0, none⟩ = some (.pointer none)) (hsh : w.shape? b = some (83, 2)) (hfz : w.frozen? ⟨b, 0, none⟩ = false) :
    Calls Tryd.prog 100 #[.pointer (some ⟨b, 0, none⟩)] w fun e w' => e = .returned (.tuple #[]) ∧ w' = w.setCell ⟨b, 0, none⟩ (.pointer (some ⟨b, 0, none⟩)) := by
  obtain ⟨j, hj, hjs⟩ := Option.map_eq_some_iff.1 (show (Tryd.prog.info? 83).map (·.size) = some 2 by kernel_rfl)
  go_enter Tryd.func100, Tryd.ntmps100
  go_wp2
  rw [Lib.run_to_unsafe w ⟨b, 0, none⟩ Tryd.underlying81 Tryd.underlying192 hj (by rw [hjs]; decide) hsh (Nat.zero_lt_succ 1)]
  simp only [Result.andThen]
  rw [Oper.upon_value]
  go_wp2
  rw [run_callFunc_extern Tryd.func149 (by kernel_rfl) (by kernel_rfl) (by kernel_rfl) (e := Extern.AbiNoEscape.same) (by kernel_rfl)]
  rw [Lib.run_noEscape]
  simp only [Result.andThen]
  rw [Oper.upon_value]
  go_wp2
  rw [Lib.run_from_unsafe w ⟨b, 0, none⟩ Tryd.underlying192 Tryd.underlying81 hj hsh (by kernel_rfl)]
  simp only [Result.andThen]
  rw [Oper.upon_value]
  go_wp2
  go_end0
  exact ⟨rfl, rfl⟩
theorem copyCheck_any (B b : Nat) (bs : List Value) (w : World) (h : Lib.IsBuilder 83 5 B b bs w) :
    Calls Tryd.prog 100 #[.pointer (some ⟨b, 0, none⟩)] w fun e w' => e = .returned (.tuple #[]) ∧ (Lib.BuilderAt 83 5 B b (.pointer (some ⟨b, 0, none⟩)) bs w' ∧ Below B w w' ∧ Kept BT w w') := by
  rcases h with h | h
  · refine (copyCheck_fresh b w h.cell0 h.shape h.frozen0).mono ?_
    rintro e w' ⟨rfl, rfl⟩
    have h0 := h
    obtain ⟨hB, v, hb, -, -⟩ := h
    exact ⟨rfl, h0.used _, (Below.refl B w).setCell (p := ⟨b, 0, none⟩) hB _, (Kept.refl BT w).setCell hb (by decide) _⟩
  · refine (copyCheck_used b w h.cell0).mono ?_
    rintro e w' ⟨rfl, rfl⟩
    exact ⟨rfl, h, Below.refl B _, Kept.refl BT _⟩
set_option maxHeartbeats 2000000 in
set_option maxRecDepth 100000 in
theorem wstring_any (B b : Nat) (l : List UInt8) (s : ByteArray) (w : World) (h : IsB B b l w) (hlen : l.length + s.size ≤ 140737488355328) (hBw : B ≤ w.heap.size) :
    Calls Tryd.prog 48 #[.pointer (some ⟨b, 0, none⟩), .string s] w fun e w' => e = .returned (.tuple #[.int .i64 s.size, .nilIface]) ∧ IsB B b (l ++ s.data.toList) w' ∧ Below B w w' ∧ Kept BT w w' := by
  have HC := Lib.hid (copyCheck_any B b _ w h)
  obtain ⟨i0, hi, hz0, hz1, hz2⟩ := info_parts (show (Tryd.prog.info? 5).map (fun i => (i.zero, i.size, i.bytes)) = some (some (.int .u8 0), 1, 1) by kernel_rfl)
  clear h
  go_enter Tryd.func48, Tryd.ntmps48
  go_wp2_with (go_at_call 100; refine HC.out.mono ?_)
  rintro e w1 ⟨rfl, h1, hb1, hk1⟩
  obtain ⟨hB, v, hbk, hown, hne⟩ := h1
  rw [Lib.byteCells_length] at hown
  have c0 : w1.cell? ⟨b, 0, none⟩ = some (.pointer (some ⟨b, 0, none⟩)) := by rw [Lib.cell_of_heap hbk]; rfl
  have c1 : w1.cell? ⟨b, 1, none⟩ = some v := by rw [Lib.cell_of_heap hbk]; rfl
  go_wp2_with (at_builtin; refine Lib.wpList_append_own_string _ rfl _ _ 38 9 rfl B 5 i0 Tryd.underlying38 Tryd.underlying9 hi hz0 hz1 hz2 _ _ _ rfl hown s rfl ?c3 ?c4 ?c5 ?_)
  case c3 => unfold maxLen; omega
  case c4 => omega
  case c5 => have := hb1.size; omega
  intro v' w2 hown' hgrow _
  have hlt : b < w1.heap.size := by
    rcases Nat.lt_or_ge b w1.heap.size with h' | h'
    · exact h'
    · simp [Array.getElem?_eq_none h'] at hbk
  have hb2 : w2.heap[b]? = some (.cells #[.pointer (some ⟨b, 0, none⟩), v] 83 (0, 0)) := by
    rw [hgrow.block b hlt (fun e => hne e.symm)]
    exact hbk
  have d0 : w2.cell? ⟨b, 0, none⟩ = some (.pointer (some ⟨b, 0, none⟩)) := by rw [Lib.cell_of_heap hb2]; rfl
  have d1 : w2.cell? ⟨b, 1, none⟩ = some v := by rw [Lib.cell_of_heap hb2]; rfl
  have f1 : w2.frozen? ⟨b, 1, none⟩ = false := Lib.frozen_of_heap hb2 1
  obtain ⟨ao, n', cap, rfl⟩ : ∃ ao n' cap, v' = .slice ao n' cap := by
    rcases hown'.2 with ⟨hv, _⟩ | ⟨g, cap, cur, hv, _⟩
    · exact ⟨_, _, _, hv⟩
    · exact ⟨_, _, _, hv⟩
  have hk2 : Kept BT w w2 := hk1.trans ⟨hgrow.size, fun i cs t fr hi ht => (hgrow.block i (block_lt hi) (fun e => by
    have h5 := own_neT hown hi (fun e5 => ht (by rw [← e5]; exact .tail _ (.head _)))
    exact h5 _ e.symm rfl)).trans hi⟩
  have hk3 := Lib.hid (fun x => hk2.setCell hb2 (by decide) (i := 1) x)
  clear hk1 hk2
  have HB1 := Lib.hid hb1; have HOW := Lib.hid hown; have HOW' := Lib.hid hown'; have HG := Lib.hid hgrow; have HB2 := Lib.hid hb2
  clear hb1 hown hown' hgrow hb2 hbk hne
  go_wp2
  go_ret2
  refine ⟨rfl, .inr ?_, ?_, hk3.out _⟩
  · refine Lib.BuilderAt.put (T := 83) (e := 5) hB HB2.out (bs' := Lib.byteCells (l ++ s.data.toList)) ?_ (by decide)
    have h9 := HOW'.out
    have e9 : Lib.byteCells (l ++ s.data.toList) = Lib.byteCells l ++ Lib.strCells s := by unfold Lib.byteCells Lib.strCells; rw [List.map_append]
    rw [e9, List.length_append, Lib.byteCells_length, Lib.strCells_length]
    exact h9
  · exact (HB1.out.grown HG.out (by have := HB1.out.size; omega) (fun k hk => (HOW.out.lt k hk).1)).setCell (p := ⟨b, 1, none⟩) hB _
theorem IsB.below {B b : Nat} {l : List UInt8} {w w' : World} (h : IsB B b l w) (hb : Below w.heap.size w w') : IsB B b l w' := by
  unfold IsB Lib.IsBuilder at *
  rcases h with ⟨hB, v, h1, h2, h3⟩ | ⟨hB, v, h1, h2, h3⟩
  · exact .inl ⟨hB, v, (hb.block _ (block_lt h1)).trans h1, recs_below h2 hb, h3⟩
  · exact .inr ⟨hB, v, (hb.block _ (block_lt h1)).trans h1, recs_below h2 hb, h3⟩
theorem bstring_any (B b : Nat) (l : List UInt8) (w : World) (h : IsB B b l w) (hBw : B ≤ w.heap.size) :
    Calls Tryd.prog 50 #[.pointer (some ⟨b, 0, none⟩)] w fun e w' => e = .returned (.string ⟨l.toArray⟩) ∧ Below B w w' := Tryd.Builder_String_any B b l w h hBw
set_option maxHeartbeats 2000000 in
set_option maxRecDepth 100000 in
theorem putT_any (B b : Nat) (l sg : List UInt8) (u : Nat) (hu : u < 18446744073709551616) (w : World) (ht : ∀ W, Below B w W → Tab W) (h : IsB B b l w) (hlen : l.length + sg.length ≤ 1000) (hBw : B ≤ w.heap.size) :
    Calls Tryd.prog 47 #[.string ⟨sg.toArray⟩, .int .u64 u, .pointer (some ⟨b, 0, none⟩)] w fun e w' => e = .returned (.tuple #[]) ∧ IsB B b (l ++ sg ++ Dec.digits u) w' ∧ Below B w w' ∧ Kept BT w w' := by
  have H1 := Lib.hid (wstring_any B b l ⟨sg.toArray⟩ w h (by rw [size_string]; omega) hBw)
  have HF := Lib.hid (fun W hW => fuint_any u hu W (ht W hW))
  have HU : Hid ((Dec.digits u).length ≤ 20) := Lib.hid (by exact Post.dig_len u (by omega))
  have HL := Lib.hid hlen
  clear h ht hlen
  go_enter Tryd.func47, Tryd.ntmps47
  go_wp2_with fail
  refine H1.out.mono ?_
  rintro e w1 ⟨rfl, h1, hb1, hk1⟩
  have HI1 := Lib.hid h1; have HB1 := Lib.hid hb1; have HK1 := Lib.hid hk1
  clear h1 hb1 hk1
  go_wp2_with fail
  refine (HF.out _ HB1.out).mono ?_
  rintro e w2 ⟨rfl, hb2⟩
  have HI2 := Lib.hid (HI1.out.below hb2)
  have HB2 := Lib.hid (HB1.out.trans (hb2.mono (Nat.le_trans hBw HB1.out.size)))
  have HK2 := Lib.hid (HK1.out.trans (Kept.of_below hb2))
  clear hb2
  go_wp2_with fail
  refine (wstring_any B b _ ⟨(Dec.digits u).toArray⟩ w2 HI2.out (by rw [size_string, List.length_append]; have := HU.out; have := HL.out; simp; omega) (Nat.le_trans hBw HB2.out.size)).mono ?_
  rintro e w3 ⟨rfl, h3, hb3, hk3⟩
  have HI3 := Lib.hid h3; have HB3 := Lib.hid (HB2.out.trans hb3); have HK3 := Lib.hid (HK2.out.trans hk3)
  clear h3 hb3 hk3
  go_wp2
  go_end0
  exact ⟨rfl, HI3.out, HB3.out, HK3.out⟩
end Go.Proofs.YtellhmbebimenaaDoor
end
