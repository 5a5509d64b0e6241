/- Contracts: bytes' digits, of package wire and of the reference. -/
import Derived.Test.YtfpcpnjegbmdbaaWirK
import Derived.Test.YtfpcpnjegbmdbaaWDecA
import Derived.Test.YtfpcpnjegbmdbaaWHexP
import Derived.BigRegion
set_option linter.unusedSimpArgs false
set_option linter.unusedVariables false
namespace Go.Proofs.Ytfpcpnjegbmdbaa
open Go.RowKit

/-- 'append(v, x...)' of bytes, in a region that draws its order -/
theorem step_append_bytes {ops : Array Oper} {o : Oper} {a : Act} {K : Act → World → Prop} {Q : Exit → Act → World → Prop} {E : Prop} {w : World} (hgd : o.guard = none) (s x : Operand)
    (ho : o.op = .call { callee := .builtin .append, args := #[s, x], argTypes := #[29, 29] }) (base : Nat) (v : Value) (n : Nat) (xs : List Value) (hs : a.eval s = v) (hown : w.ownsRow base 5 1 v n xs)
    (y : Value) (l : List UInt8) (hx : a.eval x = y) (hb : BS w y l) (hn : n + l.length ≤ 1099511627776) (hbase : base ≤ w.heap.size)
    (h : ∀ v' w', w'.ownsRow base 5 1 v' (n + l.length) (xs ++ bytesV l) → w.grownBy w' v.ownBlock → K (a.put o.dst v') w') :
    if Region.wanted o (yielded ops a.tmps) = true then Oper.wp Try.prog o a w K Q else E := by
  have hw : Region.wanted o (yielded ops a.tmps) = true := by simp [Region.wanted, hgd]
  rw [if_pos hw]
  obtain ⟨v', w', hr, g1, g2, _, _⟩ := run_append_bytes w base o.type v n xs hown y l hb hn hbase
  exact Lib.wp_append_run w s x _ _ ho v _ hs hx v' w' hr (h v' w' g1 g2)
theorem row_bytes (w : World) (l : List UInt8) (n : Nat) (hn : l.length = n) (hc : n ≤ maxLen) : BS (w.alloc (.cells (rowB l) 5)) (.slice (some ⟨w.heap.size, 0, none⟩) n n) l := by
  have := BS.of_row (w := w.alloc (.cells (rowB l) 5)) (new_rowW _ _ w.heap.size rfl) 0 n n (by omega) (Nat.le_refl _) hc
  rwa [List.drop_zero, List.take_of_length_le (by omega)] at this
set_option maxRecDepth 10000 in
theorem hex_at (q : Nat) (h : q < 16) (W : World) : (Instr.index 9 (.string ⟨#[48, 49, 50, 51, 52, 53, 54, 55, 56, 57, 97, 98, 99, 100, 101, 102]⟩) (.int .u8 (q : Int))).run Try.prog W = .ok (.int .u8 (((Hex.hexd q).toNat : Nat) : Int)) W := by
  rcases (by omega : q = 0 ∨ q = 1 ∨ q = 2 ∨ q = 3 ∨ q = 4 ∨ q = 5 ∨ q = 6 ∨ q = 7 ∨ q = 8 ∨ q = 9 ∨ q = 10 ∨ q = 11 ∨ q = 12 ∨ q = 13 ∨ q = 14 ∨ q = 15) with rfl | rfl | rfl | rfl | rfl | rfl | rfl | rfl | rfl | rfl | rfl | rfl | rfl | rfl | rfl | rfl <;>
    (simp only [Instr.index, run_underlying Try.underlying9, asIntOf]; rfl)

set_option maxRecDepth 4000 in
set_option maxHeartbeats 1000000 in
theorem wDigits_any (v : Value) (b : List UInt8) (hlen : b.length ≤ 1000000) (w : World) (hv : BS w v b) :
    Calls Try.prog 27 #[v] w fun e w' => e = .returned (.string ⟨(Hex.hexL b).toArray⟩) ∧ Below w.heap.size w w' := by
  have HV := Lib.hid hv
  obtain ⟨p, cap, rfl, g1, g2, g3⟩ := hv
  have H3 := Lib.hid g3; clear g3
  unfold maxLen at g2
  have HT : Hid (∀ k x, b[k]? = some x → Hex.hexL (b.take (k + 1)) = Hex.hexL (b.take k) ++ [Hex.hexd (x.toNat / 16), Hex.hexd (x.toNat % 16)]) := Lib.hid (fun k x h => by rw [take_at h, Hex.hexL_append]; rfl)
  generalize hn : b.length = n at *
  have HN := Lib.hid hn; clear hn
  go_enter Try.func27, Try.ntmps27
  go_wp2
  go_loopw [3, 8] (fun o i wr => ∃ (k : Nat) (u : Value), k ≤ n ∧ i = .int .i64 k ∧ o = u ∧ Below w.heap.size w wr ∧ wr.ownsRow w.heap.size 5 1 u (2 * k) (bytesV (Hex.hexL (b.take k)))) (fun _ i _ => n - (intOf i).toNat)
  case atStart => exact ⟨0, _, Nat.zero_le _, rfl, rfl, Below.refl _ _, World.ownsRow_nil _ _ _ _⟩
  case round =>
    obtain ⟨k, u, hk, rfl, rfl, hbw, hown⟩ := hrel
    have HO := Lib.hid hown; clear hown
    have HBW := Lib.hid hbw
    by_cases hlt : k < n
    · obtain ⟨x, hx⟩ : ∃ x, b[k]? = some x := ⟨_, List.getElem?_eq_getElem (by have := HN.out; omega)⟩
      obtain ⟨g, o, rfl, hgs, hc⟩ := H3.out (by intro h; subst h; simp at hx)
      have hcx := (hbw.cell (p := ⟨g, o + k, none⟩) hgs).trans (hc k x hx)
      have HX := Lib.hid (HT.out k x hx)
      have hxl := x.toNat_lt
      have hq1 : x.toNat / 16 < 16 := by omega
      have hq2 : x.toNat % 16 < 16 := by omega
      have d1 : (x.toNat : Int).tdiv 16 = ((x.toNat / 16 : Nat) : Int) := by rw [Int.tdiv_eq_ediv_of_nonneg (by omega)]; omega
      have d2 : (x.toNat : Int).tmod 16 = ((x.toNat % 16 : Nat) : Int) := by rw [Int.tmod_eq_emod_of_nonneg (by omega)]; omega
      have d3 : (x.toNat : Int) / 16 = ((x.toNat / 16 : Nat) : Int) := by omega
      have d4 : (x.toNat : Int) % 16 = ((x.toNat % 16 : Nat) : Int) := by omega
      have i1 := hex_at _ hq1
      have i2 := hex_at _ hq2
      have w1 : IntKind.u8.wrap ((x.toNat / 16 : Nat) : Int) = ((x.toNat / 16 : Nat) : Int) := by rw [IntKind.wrap_u8]; omega
      have w2 : IntKind.u8.wrap ((x.toNat % 16 : Nat) : Int) = ((x.toNat % 16 : Nat) : Int) := by rw [IntKind.wrap_u8]; omega
      clear hx hc hbw
      generalize (x.toNat : Int) = xi at *
      generalize x.toNat / 16 = q1 at *
      generalize x.toNat % 16 = q2 at *
      clear hxl
      go_wp2_with fail
      go_region_law (first
        | (refine step_append_bytes rfl _ _ rfl w.heap.size _ _ _ rfl (HO.out.drew.alloc _) _ [Hex.hexd q1, Hex.hexd q2] rfl (row_bytes _ [Hex.hexd q1, Hex.hexd q2] 2 rfl (by decide)) (by simp; omega) (by have := HBW.out.size; simp; omega) ?_; intro v2 w2' hown2 hg2))
      all_goals
        have HB2 := Lib.hid ((HBW.out.alloc HBW.out.size (.cells (rowB [Hex.hexd q1, Hex.hexd q2]) 5)).drew.grown hg2 (by have := HBW.out.size; simp; omega) (fun q hq => (HO.out.lt q hq).1))
        have HO2 : Hid (w2'.ownsRow w.heap.size 5 1 v2 (2 * (k + 1)) (bytesV (Hex.hexL (b.take (k + 1))))) := Lib.hid (by rw [HX.out, bytesV_append, show 2 * (k + 1) = 2 * k + [Hex.hexd q1, Hex.hexd q2].length from rfl]; exact hown2)
        clear hown2 hg2
        go_wp2
        go_roundw
        case rel => exact ⟨k + 1, _, by omega, by go_num, rfl, HB2.out, HO2.out⟩
        case measure => simp [intOf]; omega
    · obtain rfl : k = n := by omega
      have hown := HO.out
      rw [List.take_of_length_le (by have := HN.out; omega)] at hown
      have hstr := (BS.of_own hown).to_string
      obtain ⟨q, c, hq⟩ := own_form hown
      subst hq
      clear hown hbw
      go_wp2
      go_ret
      exact ⟨rfl, HBW.out⟩

set_option maxRecDepth 4000 in
set_option maxHeartbeats 1000000 in
theorem rDigits_any (v : Value) (b : List UInt8) (hlen : b.length ≤ 1000000) (w : World) (hv : BS w v b) :
    Calls Try.prog 29 #[v] w fun e w' => e = .returned (.string ⟨(Hex.hexL b).toArray⟩) ∧ Below w.heap.size w w' := by
  have HV := Lib.hid hv
  obtain ⟨p, cap, rfl, g1, g2, g3⟩ := hv
  have H3 := Lib.hid g3; clear g3
  unfold maxLen at g2
  have HT : Hid (∀ k x, b[k / 2]? = some x → (Hex.hexL b)[k]? = some (Hex.hexd (if k % 2 = 1 then x.toNat % 16 else x.toNat / 16))) := Lib.hid (fun k x h => Hex.hexL_at b k x h)
  have HLL : Hid ((Hex.hexL b).length = 2 * b.length) := Lib.hid (Hex.hexL_length b)
  generalize hn : b.length = n at *
  have HN := Lib.hid hn; clear hn
  generalize hhl : Hex.hexL b = L at *
  go_enter Try.func29, Try.ntmps29
  go_wp2
  go_loopw [3, 4] (fun o i wr => ∃ (k : Nat) (u : Value), k ≤ 2 * n ∧ i = .int .i64 k ∧ o = u ∧ Below w.heap.size w wr ∧ wr.ownsRow w.heap.size 5 1 u k (bytesV (L.take k))) (fun _ i _ => 2 * n - (intOf i).toNat)
  case atStart => exact ⟨0, _, Nat.zero_le _, rfl, rfl, Below.refl _ _, World.ownsRow_nil _ _ _ _⟩
  case round =>
    clear hhl
    obtain ⟨k, u, hk, rfl, rfl, hbw, hown⟩ := hrel
    have HO := Lib.hid hown; clear hown
    have HBW := Lib.hid hbw
    by_cases hlt : k < 2 * n
    · obtain ⟨x, hx⟩ : ∃ x, b[k / 2]? = some x := ⟨_, List.getElem?_eq_getElem (by have := HN.out; omega)⟩
      obtain ⟨g, o, rfl, hgs, hc⟩ := H3.out (by intro h; subst h; simp at hx)
      have hcx := (hbw.cell (p := ⟨g, o + k / 2, none⟩) hgs).trans (hc (k / 2) x hx)
      have hxl := x.toNat_lt
      have HX := HT.out k x hx
      clear hx hc hbw
      obtain ⟨q, hq, hq16, hqv⟩ : ∃ q : Nat, (if k % 2 = 1 then x.toNat % 16 else x.toNat / 16) = q ∧ q < 16 ∧ ((k : Int) % 2 = 1 ∧ (x.toNat : Int) % 16 = (q : Int) ∨ (k : Int) % 2 = 0 ∧ (x.toNat : Int) / 16 = (q : Int)) := by
        by_cases h : k % 2 = 1
        · exact ⟨x.toNat % 16, by rw [if_pos h], by omega, .inl ⟨by omega, by omega⟩⟩
        · exact ⟨x.toNat / 16, by rw [if_neg h], by omega, .inr ⟨by omega, by omega⟩⟩
      rw [hq] at HX
      have HS : Hid (bytesV (L.take (k + 1)) = bytesV (L.take k) ++ bytesV [Hex.hexd q]) := Lib.hid (by rw [take_at HX, bytesV_append])
      have hd := Hex.hexd_toNat hq16
      have hxi : 0 ≤ (x.toNat : Int) ∧ (x.toNat : Int) < 256 := by omega
      clear hq HX hxl
      generalize (x.toNat : Int) = xi at *
      have hdv : (q < 10 ∧ ((Hex.hexd q).toNat : Int) = 48 + (q : Int)) ∨ (¬ q < 10 ∧ ((Hex.hexd q).toNat : Int) = 97 + (q : Int) - 10) := by
        rw [hd]
        by_cases h : q < 10
        · rw [if_pos h]; exact .inl ⟨h, by omega⟩
        · rw [if_neg h]; exact .inr ⟨h, by omega⟩
      clear hd
      obtain ⟨hx0, hx1⟩ := hxi
      rcases hqv with ⟨hm, hv⟩ | ⟨hm, hv⟩
      all_goals
        rcases hdv with ⟨h10, hd⟩ | ⟨h10, hd⟩
      all_goals
        have hrb : BS (wr.alloc (.cells #[.int .u8 ((Hex.hexd q).toNat : Int)] 5)) (.slice (some ⟨wr.heap.size, 0, none⟩) 1 1) [Hex.hexd q] := row_bytes wr [Hex.hexd q] 1 rfl (by decide)
        rw [hd] at hrb
        have HRB := Lib.hid hrb
        clear hrb hd
        go_wp2_with (at_builtin; refine wpList_append_bytes rfl _ _ rfl w.heap.size _ _ _ rfl (HO.out.alloc _) _ [Hex.hexd q] rfl HRB.out ?c1 ?c2 ?_)
        case c1 => simp; omega
        case c2 => have := HBW.out.size; simp; omega
        intro v2 w2 hown2 hg2 hn2 hat2
        have HB2 := Lib.hid ((HBW.out.alloc HBW.out.size _).grown hg2 (by have := HBW.out.size; simp; omega) (fun q hq => (HO.out.lt q hq).1))
        have HO2 : Hid (w2.ownsRow w.heap.size 5 1 v2 (k + 1) (bytesV (L.take (k + 1)))) := Lib.hid (by rw [HS.out]; exact hown2)
        clear hown2 hg2 hn2 hat2
        go_wp2
        go_roundw
        case rel => exact ⟨k + 1, _, by omega, by go_num, rfl, HB2.out, HO2.out⟩
        case measure => simp [intOf]; omega
    · obtain rfl : k = 2 * n := by omega
      have hown := HO.out
      rw [List.take_of_length_le (by have := HLL.out; omega)] at hown
      have hstr := (BS.of_own hown).to_string
      obtain ⟨q, c, hq⟩ := own_form hown
      subst hq
      clear hown hbw
      go_wp2
      go_ret
      exact ⟨rfl, HBW.out⟩
end Go.Proofs.Ytfpcpnjegbmdbaa
