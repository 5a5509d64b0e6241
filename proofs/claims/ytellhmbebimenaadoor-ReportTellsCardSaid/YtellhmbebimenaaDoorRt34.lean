/- Contracts of the program's Of and Text. A region that draws its order: reads and calls that only make memory, each with a fixed value; then a tail that comes up one by one (a buildSlice, a store, an append): one walk of the head's lexical order, then the tail. -/
import Derived.Test.YtellhmbebimenaaDoorRt6
import Derived.Test.YtellhmbebimenaaDoorRt1
import Derived.StillTail

section
set_option linter.unusedSimpArgs false
set_option linter.unusedVariables false
namespace Go.Proofs.YtellhmbebimenaaDoor
open Go.RowKit

theorem ofE_notall {s : ByteArray} {k : Nat} (h : k < s.size) (hb : Dec.isDig s[k] = false) : Num.ofE s.data.toList = 4 ∧ Num.ofN s.data.toList = 0 := by
  apply ofE_short
  right
  rw [Bool.eq_false_iff]
  intro ha
  have := List.all_eq_true.1 ha _ (mem_of_lt s k h)
  rw [hb] at this; cases this

/-- a row of runes, and thirteen noughts: behind plain names, so that the walk doesn't write them out -/
def runeRow (zs : List Int) : Array Value := (zs.map (Value.int .i32)).toArray
def zeros13 : List Int := List.replicate 13 0
theorem runeRow_at {zs : List Int} {j : Nat} (h : j < zs.length) : (runeRow zs)[j]? = some (.int .i32 (zs.getD j 0)) := by
  unfold runeRow; simp [List.getElem?_eq_getElem h, h]
theorem runeRow_set (zs : List Int) (j : Nat) (v : Int) : (runeRow zs).setIfInBounds j (.int .i32 v) = runeRow (zs.set j v) := by
  unfold runeRow; simp [List.map_set]

theorem encode_ascii (c : UInt8) (h : Dec.isDig c = true) : Utf8.encode (c.toNat : Int) = ⟨#[c]⟩ := by
  have hc := Dec.isDig_iff.1 h
  have hv : Utf8.valid (c.toNat : Int) = true := by simp [Utf8.valid]; omega
  unfold Utf8.encode
  simp only [hv, if_true]
  rw [if_pos (by show (c.toNat : Int).toNat < 128; omega)]
  simp
theorem runes_ascii (acc : List UInt8) : ∀ s : ByteArray, acc.all Dec.isDig = true → (acc.map (fun c => (c.toNat : Int))).foldl (fun r n => r ++ Utf8.encode n) s = s ++ ⟨acc.toArray⟩ := by
  induction acc with
  | nil => intro s _; apply ByteArray.ext; simp
  | cons c acc ih =>
    intro s h
    rw [List.all_cons, Bool.and_eq_true] at h
    rw [List.map_cons, List.foldl_cons, ih _ h.2, encode_ascii c h.1]
    apply ByteArray.ext
    simp
theorem runesBytes_ascii (acc : List UInt8) (h : acc.all Dec.isDig = true) : runesBytes (acc.map (fun c => (c.toNat : Int))) = ⟨acc.toArray⟩ := by
  unfold runesBytes
  rw [runes_ascii acc _ h]
  apply ByteArray.ext
  simp
theorem drop_set_step (zs : List Int) (v : Int) (k : Nat) (hz : zs.length = 13) (hk : k < 13) : (zs.set (12 - k) v).drop (13 - (k + 1)) = v :: zs.drop (13 - k) := by
  rw [show 13 - (k + 1) = 12 - k from by omega, List.drop_eq_getElem_cons (by simp; omega)]
  rw [show 13 - k = 12 - k + 1 from by omega]
  simp [List.drop_set]

set_option maxHeartbeats 1000000 in
theorem text_any (n : Int) (h0 : 0 ≤ n) (h1 : n ≤ 18446744073709551615) (w : World) :
    Calls Tryd.prog 72 #[.int .u64 n] w fun e w' => e = .returned (.string (if Num.check n = 0 then ⟨(Dec.text n.toNat 13).toArray⟩ else ⟨#[]⟩)) ∧ Below w.heap.size w w' := by
  obtain ⟨N, rfl⟩ := Int.eq_ofNat_of_zero_le h0
  simp only [Int.toNat_natCast]
  by_cases hc : Num.check N = 0
  · rw [if_pos hc]
    have hcb : (Num.check N != 0) = false := by rw [hc]; rfl
    clear hc
    have hmk : ∀ w : World, (Instr.makeSlice 171 (.int .i64 13) (.int .i64 13)).run Tryd.prog w = .ok (.slice (some ⟨w.heap.size, 0, none⟩) 13 13) (w.alloc (.cells (runeRow zeros13) 21)) := fun _ => by kernel_rfl
    go_enter Tryd.func72, Tryd.ntmps72
    go_wp2_with (first | (go_at_call 71; refine (check_any _ (by omega) (by omega) _).mono ?_; rintro e w' ⟨rfl, rfl⟩))
    go_loopw [0, 11] (fun n5 i wr => ∃ (k N' : Nat) (zs : List Int) (acc : List UInt8), k ≤ 13 ∧ i = .int .i64 k ∧ n5 = .int .u64 N' ∧ N' ≤ 18446744073709551615 ∧ zs.length = 13 ∧ wr = w.alloc (.cells (runeRow zs) 21) ∧
        (zs.drop (13 - k) = acc.map (fun c => (c.toNat : Int)) ∧ Dec.text N 13 = Dec.text N' (13 - k) ++ acc)) (fun _ i _ => 13 - (intOf i).toNat)
    case atStart => exact ⟨0, N, zeros13, [], Nat.zero_le _, rfl, rfl, by omega, by decide, rfl, rfl, by simp⟩
    case round =>
      obtain ⟨k, N', zs, acc, hk, rfl, rfl, hN, hz, rfl, hrest⟩ := hrel
      have HR := Lib.hid hrest; clear hrest
      have HZ := Lib.hid hz; clear hz
      clear hmk hcb
      by_cases hlt : k < 13
      · have hck := runeRow_at (zs := zs) (j := 12 - k) (by have := HZ.out; omega)
        go_wp2
        go_roundw
        case rel =>
          refine ⟨k + 1, N' / 10, zs.set (12 - k) (48 + (N' : Int) % 10), Dec.dig N' :: acc, by omega, by go_num, by go_num, by omega, by rw [List.length_set]; exact HZ.out, by rw [runeRow_set], ?_, ?_⟩
          · rw [drop_set_step _ _ _ HZ.out hlt, HR.out.1, List.map_cons, Dec.dig_toNat]
            congr 1
          · rw [HR.out.2, show 13 - k = (13 - (k + 1)) + 1 from by omega]
            simp [Dec.text]
        case measure => simp [intOf]; omega
      · obtain rfl : k = 13 := by omega
        have ha : Dec.text N 13 = acc := by rw [HR.out.2]; rfl
        have hzs : zs = (Dec.text N 13).map (fun c => (c.toNat : Int)) := by rw [ha, ← HR.out.1]; rfl
        have hcv : (convert 171 9 (.slice (some ⟨w.heap.size, 0, none⟩) 13 13)).run Tryd.prog (w.alloc (.cells (runeRow zs) 21)) = .ok (.string ⟨(Dec.text N 13).toArray⟩) (w.alloc (.cells (runeRow zs) 21)) := by
          rw [run_convert_runes _ 171 9 21 ⟨w.heap.size, 0, none⟩ 13 13 zs (by rw [HZ.out]; exact Nat.le_refl _) Tryd.underlying171 Tryd.underlying21 Tryd.underlying9 (fun j hj => by
            have h1 : (w.alloc (.cells (runeRow zs) 21)).cell? ⟨w.heap.size, j, none⟩ = (runeRow zs)[j]? := World.cell?_alloc_mark w _ _ (0, 0) j
            have h2 : (Addr.add ⟨w.heap.size, 0, none⟩ j) = ⟨w.heap.size, j, none⟩ := by unfold Addr.add; split <;> simp_all
            rw [h2, h1, runeRow_at hj])]
          rw [List.take_of_length_le (by rw [HZ.out]; exact Nat.le_refl _), hzs, runesBytes_ascii _ (Dec.text_all _ _)]
        clear hzs ha
        go_wp2
        go_ret
        exact ⟨rfl, (Below.refl _ _).alloc (Nat.le_refl _) _⟩
  · rw [if_neg hc]
    have hcb : (Num.check N != 0) = true := bne_iff_ne.2 hc
    clear hc
    go_enter Tryd.func72, Tryd.ntmps72
    go_wp2_with (first | (go_at_call 71; refine (check_any _ (by omega) (by omega) _).mono ?_; rintro e w' ⟨rfl, rfl⟩))
    go_ret
    exact ⟨rfl, Below.refl _ _⟩
end Go.Proofs.YtellhmbebimenaaDoor
end

section
namespace Go.Proofs.YtellhmbebimenaaDoor
open Go.RowKit

section
variable {P : Program} {ops : Array Oper} {md : Region.Mode} {C : World → Prop}

def wpAnyLQ (P : Program) (md : Region.Mode) (ops : Array Oper) (C : World → Prop) (n : Nat) (L : Array Bool → Act → Prop) : Nat → Array Bool → Act → Prop
  | 0, listed, a => L listed a
  | f + 1, listed, a =>
    Region.ready md ops listed ≠ [] ∧ ∀ i ∈ Region.ready md ops listed, i < n ∧ qOp P ops C i (wpAnyLQ P md ops C n L f (listed.setIfInBounds i true)) a

theorem wpAny_of_headQ {n g : Nat} {L : Array Bool → Act → Prop} {Q' : Exit → Act → World → Prop} (hL : ∀ listed a w, C w → L listed a → wpAny P md ops Q' g listed a w) :
    ∀ (f : Nat) (listed : Array Bool) (a : Act) (w : World), C w → wpAnyLQ P md ops C n L f listed a → wpAny P md ops Q' (f + g) listed a w
  | 0, listed, a, w, hw, h => by rw [Nat.zero_add]; exact hL _ _ _ hw h
  | f + 1, listed, a, w, hw, h => by
    rw [show f + 1 + g = (f + g) + 1 by omega]
    exact ⟨fun h0 => absurd h0 h.1, fun i hi => wpOp_of_qOp hw (fun a' w' hw' h' => wpAny_of_headQ hL f _ a' w' hw' h') (h.2 i hi).2⟩

theorem wpAnyLQ_first {n i : Nat} {oi : Oper} {v : Value} {L : Array Bool → Act → Prop} (hi : ops[i]? = some oi) (hsel : ∀ (j : Nat) (o : Oper) cs b, ops[j]? = some o → o.op ≠ .select cs b)
    (hs : Region.sinkB md ops n = true) (hc : Region.chainB md ops n = true) (hn : n < ops.size) (hin : i < n)
    (hdone : ∀ listed a, L listed a → ∀ j ∈ Region.ready md ops listed, n ≤ j) :
    ∀ (f : Nat) (listed : Array Bool) (a : Act), HeadInv md ops n listed →
      (∀ j oj, ops[j]? = some oj → j ≠ i → listed.getD j true = false → (∀ e ∈ oj.after, Region.binds md e = true → e.on ≠ i) → oi.apart ops oj = true) →
      i ∈ Region.ready md ops listed → YieldsIn P ops C oi v a →
      wpAnyLQ P md ops C n L f (listed.setIfInBounds i true) (a.put oi.dst v) → wpAnyLQ P md ops C n L (f + 1) listed a := by
  intro f
  induction f with
  | zero =>
    intro listed a inv _ hr hy H
    have hun := (mem_ready.1 hr).1
    refine ⟨fun h => (by rw [h] at hr; cases hr), fun j hj => ?_⟩
    have hjn : j < n := by
      rcases Nat.lt_or_ge j n with h | h
      · exact h
      · exact absurd hj (tail_waits hs hc hn inv _ i rfl hin hun j h)
    refine ⟨hjn, ?_⟩
    by_cases hji : j = i
    · subst hji; exact hy.qOp hi H
    · have := hdone _ _ H j (ready_mono hj hji)
      omega
  | succ f ih =>
    intro listed a inv hfree hr hy H
    have hun := (mem_ready.1 hr).1
    refine ⟨fun h => (by rw [h] at hr; cases hr), fun j hj => ?_⟩
    have hjn : j < n := by
      rcases Nat.lt_or_ge j n with h | h
      · exact h
      · exact absurd hj (tail_waits hs hc hn inv _ i rfl hin hun j h)
    refine ⟨hjn, ?_⟩
    by_cases hji : j = i
    · subst hji; exact hy.qOp hi H
    · have h1 := (H.2 j (ready_mono hj hji)).2
      obtain ⟨hjun, oj, hoj, hall⟩ := mem_ready.1 hj
      have hnot : ∀ e ∈ oj.after, Region.binds md e = true → e.on ≠ i := fun e he hb heq => by
        have h1 := hall e he hb
        rw [heq, getD_both hun] at h1
        cases h1
      have h2 := qOp_put hoj (hfree j oj hoj hji hjun hnot) (fun cs b => hsel i oi cs b hi) (fun cs b => hsel j oj cs b hoj) hy h1
      have hfree' : ∀ k ok, ops[k]? = some ok → k ≠ i → (listed.setIfInBounds j true).getD k true = false →
          (∀ e ∈ ok.after, Region.binds md e = true → e.on ≠ i) → oi.apart ops ok = true := fun k ok hk hki hun hno => by
        refine hfree k ok hk hki ?_ hno
        by_cases hjk : j = k
        · subst hjk; exact hjun
        · rw [getD_set_ne true hjk] at hun; exact hun
      refine qOp_mono (fun a' h3 => ih (listed.setIfInBounds j true) a' (inv.set hj hjn) hfree' (ready_mono hr (Ne.symm hji)) h3.1 ?_) h2
      rw [Array.setIfInBounds_comm _ _ hji]
      exact h3.2

theorem wpAnyLQ_lex {n g : Nat} {Lq : Act → Prop} (hsel : Region.noSelect ops = true) (hs : Region.sinkB md ops n = true) (hc : Region.chainB md ops n = true) (hn : n < ops.size) :
    ∀ (l : List Oper) (k : Nat) (listed : Array Bool) (a : Act), (∀ j, j < l.length → l[j]? = ops[k + j]?) → k + l.length = n → HeadInv md ops n listed →
    Region.lexHead md ops g l.length k listed = true → wpQuiet P ops C Lq l a →
    wpAnyLQ P md ops C n (fun listed' a' => Region.seqB md ops g n listed' = true ∧ Lq a') l.length listed a
  | [], k, listed, a, _, hk, _, hB, h => by
    have : k = n := by simpa using hk
    subst this
    exact ⟨by simpa [Region.lexHead] using hB, h⟩
  | o :: l, k, listed, a, hl, hk, inv, hB, h => by
    have h0 : ops[k]? = some o := by simpa using (hl 0 (by simp)).symm
    simp only [List.length_cons, Region.lexHead, Bool.and_eq_true] at hB
    obtain ⟨⟨hr, hf⟩, hB'⟩ := hB
    have hkn : k < n := by simp only [List.length_cons] at hk; omega
    have hr' : k ∈ Region.ready md ops listed := by simpa using hr
    have hst : qOp P ops C k (wpQuiet P ops C Lq l) a := by unfold qOp; simp only [h0]; exact h
    obtain ⟨v, hy, hK⟩ := yieldsIn_of_qOp h0 hst
    exact wpAnyLQ_first h0 (Region.noSelect_spec hsel) hs hc hn hkn (fun listed' a' hL => seqB_ready hL.1) l.length listed a inv (Region.free_spec h0 hf) hr' hy
      (wpAnyLQ_lex hsel hs hc hn l (k + 1) _ _ (fun j hj => by have := hl (j + 1) (by simp; omega); simpa [Nat.add_assoc, Nat.add_comm 1 j] using this) (by simp only [List.length_cons] at hk; omega) (inv.set hr' hkn) hB' hK)

theorem wp_region_quiet_tail {id : Nat} {Q : Exit → Act → World → Prop} {a : Act} {w : World} {l : List Oper} (n : Nat) (hm : P.follows .mixedOrders = true) (hB : Region.lexTailB .any l.toArray n = true) (hw : C w.drew)
    (h : wpQuiet P l.toArray C (fun a' => ∀ w', C w' → wpList P l.toArray Q (l.drop n) a' w') (l.take n) a) : (Code.region id l.toArray true).wp P Q a w := by
  simp only [Region.lexTailB, Bool.and_eq_true, decide_eq_true_eq] at hB
  obtain ⟨⟨⟨⟨hsel, hn⟩, hs⟩, hc⟩, hlex⟩ := hB
  have hn' : n < l.length := by simpa using hn
  have htl : (l.take n).length = n := by simp; omega
  have hdl : (l.drop n).length = l.toArray.size - n := by simp
  have inv0 : HeadInv .any l.toArray n (Array.replicate l.toArray.size false) :=
    ⟨by simp, fun j oj _ hl => (by rw [getD_replicate_false] at hl; cases hl), fun t _ ht => getD_in (by simpa using ht) (getD_replicate_false _ _)⟩
  have H := wpAnyLQ_lex (md := .any) (g := l.toArray.size - n) hsel hs hc hn (l.take n) 0 _ a (fun j hj => by
    have hj' : j < n := by rw [htl] at hj; exact hj
    simp [hj']) (by simpa using htl) inv0 (by rw [htl]; exact hlex) h
  refine wp_region_any hm ?_
  have := wpAny_of_headQ (Q' := Q) (g := l.toArray.size - n) (fun listed a' w' hw' hL => by
    have := wpAny_of_seq (md := .any) (Q' := Q) (l.drop n) n listed a' w' (fun j => by simp [List.getElem?_drop]) (by rw [hdl]; exact hL.1) (hL.2 w' hw')
    rwa [hdl] at this) _ _ _ _ hw H
  rw [htl, show n + (l.toArray.size - n) = l.toArray.size by omega] at this
  exact this
end

theorem wp_region_later_tail {P : Program} {id : Nat} {Q : Exit → Act → World → Prop} {a : Act} {W : World} {l : List Oper} (n : Nat) (hm : P.follows .mixedOrders = true) (hB : Region.lexTailB .any l.toArray n = true)
    (h : wpQuiet P l.toArray (fun w' => ∃ u : Later W, w' = u.val) (fun a' => ∀ w', (∃ u : Later W, w' = u.val) → wpList P l.toArray Q (l.drop n) a' w') (l.take n) a) : (Code.region id l.toArray true).wp P Q a W :=
  wp_region_quiet_tail n (C := fun w' => ∃ u : Later W, w' = u.val) hm hB (Later.of (Below.refl W.heap.size W).drew) h
end Go.Proofs.YtellhmbebimenaaDoor
end
