/- A letter handed in as an argument. Plain words: a letter's bytes tell it. Contracts of the posting reference: at, put, Key, Bytes. Contracts of the posting reference: Key, Bytes, Of; and of posting.Of. -/
import Derived.Test.YtellhmbebimenaaDoorLb24
import Derived.Test.YtellhmbebimenaaDoorLb44
import Derived.Test.YtellhmbebimenaaDoorLb30
import Derived.Test.YtellhmbebimenaaDoorLb35
import Derived.Test.YtellhmbebimenaaDoorLb36
import Derived.Deep.RegionHeld3

section
set_option linter.unusedVariables false
set_option linter.unusedSimpArgs false
namespace Go.Proofs.YtellhmbebimenaaDoor
open Go.ChangeShapes Go.WideShapes Go.ChangeAt Go.RowKit Go.Deep

def ltK : List IntKind := [.i64, .i64, .u64, .u64, .i64, .u64, .i64, .i64, .i64, .i64, .i64, .i64, .i64, .i64, .u64]
theorem lt_leaves : leaves Tryd.prog 4 31 = some (ltK.map .int) := by kernel_rfl
theorem u64_wf {z : Int} (h : (Lit.int .u64 z).wf = true) : U64 z := by
  simpa [U64, Lit.wf, IntKind.min, IntKind.max, IntKind.signed, IntKind.bits] using h
theorem i64_wf {z : Int} (h : (Lit.int .i64 z).wf = true) : I64 z := by
  simpa [I64, Lit.wf, IntKind.min, IntKind.max, IntKind.signed, IntKind.bits] using h
theorem IntsOk.cons {k : IntKind} {ks : List IntKind} : ∀ {zs : List Int}, IntsOk (k :: ks) zs → ∃ z r, zs = z :: r ∧ (Lit.int k z).wf = true ∧ IntsOk ks r
  | z :: r, h => ⟨z, r, rfl, h.1, h.2⟩
  | [], h => h.elim
theorem IntsOk.nil : ∀ {zs : List Int}, IntsOk [] zs → zs = []
  | [], _ => rfl
  | _ :: _, h => h.elim
theorem lt_of_ints (zs : List Int) (h : IntsOk ltK zs) : ∃ x : Lt, x.cells = encI ltK zs ∧ x.wf := by
  unfold ltK at h
  obtain ⟨z0, r0, rfl, w0, h⟩ := h.cons
  obtain ⟨z1, r1, rfl, w1, h⟩ := h.cons
  obtain ⟨z2, r2, rfl, w2, h⟩ := h.cons
  obtain ⟨z3, r3, rfl, w3, h⟩ := h.cons
  obtain ⟨z4, r4, rfl, w4, h⟩ := h.cons
  obtain ⟨z5, r5, rfl, w5, h⟩ := h.cons
  obtain ⟨z6, r6, rfl, w6, h⟩ := h.cons
  obtain ⟨z7, r7, rfl, w7, h⟩ := h.cons
  obtain ⟨z8, r8, rfl, w8, h⟩ := h.cons
  obtain ⟨z9, r9, rfl, w9, h⟩ := h.cons
  obtain ⟨z10, r10, rfl, w10, h⟩ := h.cons
  obtain ⟨z11, r11, rfl, w11, h⟩ := h.cons
  obtain ⟨z12, r12, rfl, w12, h⟩ := h.cons
  obtain ⟨z13, r13, rfl, w13, h⟩ := h.cons
  obtain ⟨z14, r14, rfl, w14, h⟩ := h.cons
  obtain rfl := h.nil
  exact ⟨⟨z0, z1, z2, z3, z4, z5, z6, z7, z8, z9, z10, z11, z12, z13, z14⟩, rfl, i64_wf w0, i64_wf w1, u64_wf w2, u64_wf w3, u64_wf w5, i64_wf w11⟩
section
variable {H : Type} {enc : TypeId × Value → H} {W : World} {held : Bool}
set_option maxRecDepth 10000 in
theorem open_letter {r : Reach} {b0 : Nat} {v : Value} {d : DataW H} {ps : List MemPlace} (hv : Value.okWide Tryd.prog W r b0 31 v) (h : DataW.Trod enc Tryd.prog W 0 (fun _ => true) held 31 v d ps) : ∃ x : Lt, v = .agg #[.int .i64 x.f, .int .i64 x.t, .int .u64 x.n, .int .u64 x.a, .int .i64 x.k, .int .u64 x.tk, .int .i64 x.c, .int .i64 x.d, .int .i64 x.co, .int .i64 x.fl, .int .i64 x.dy, .int .i64 x.va, .int .i64 x.st, .int .i64 x.ho, .int .u64 x.nx] ∧ x.wf := by
  obtain ⟨cs, rfl, hc⟩ := open_leaves Tryd.underlying31 lt_leaves hv h
  obtain ⟨zs, hz, rfl⟩ := ints_of_all hc
  obtain ⟨x, hx, hf⟩ := lt_of_ints zs hz
  exact ⟨x, by rw [← hx]; rfl, hf⟩
end
end Go.Proofs.YtellhmbebimenaaDoor
end

section
set_option linter.unusedVariables false
namespace Go.Proofs.YtellhmbebimenaaDoor
open Go.RowKit

theorem beV_be (x k : Nat) (h : x < 256 ^ k) : beVal (Wire.be x k) = x := by
  have e : ∀ l : List UInt8, beVal l = Wire.ofBe l := fun l => by
    unfold beVal Wire.ofBe
    have : (fun (n : Nat) (b : UInt8) => n * 256 + b.toNat) = Wire.bstep := by funext a c; unfold Wire.bstep; omega
    rw [this]
  rw [e, Wire.ofBe_be, Nat.mod_eq_of_lt h]
theorem numS_app (p t : List UInt8) (k : Nat) (hk : k = 1 ∨ k = 2 ∨ k = 4 ∨ k = 8) (hp : p.length = k) : rNumS (some (p ++ t)) (k : Int) = some t ∧ rNumV (some (p ++ t)) (k : Int) = beVal p := by
  have hs : rSize (k : Int) = true := by rcases hk with rfl | rfl | rfl | rfl <;> rfl
  have hc : (0 : Int) ≤ (k : Int) ∧ (k : Int) ≤ ((p ++ t).length : Nat) := by simp; omega
  unfold rNumS rNumV
  rw [if_pos hs, if_pos hs]
  refine ⟨?_, ?_⟩
  · unfold rRest; simp only; rw [if_pos hc, Int.toNat_natCast, ← hp, List.drop_left]
  · unfold rBy rTake; simp only; rw [if_pos hc, Int.toNat_natCast, ← hp, List.take_left]; rfl
theorem nS1 (x : Nat) (t : List UInt8) : rNumS (some (Wire.be x 1 ++ t)) 1 = some t := (numS_app _ t 1 (by decide) (Wire.be_length x 1)).1
theorem nS2 (x : Nat) (t : List UInt8) : rNumS (some (Wire.be x 2 ++ t)) 2 = some t := (numS_app _ t 2 (by decide) (Wire.be_length x 2)).1
theorem nS4 (x : Nat) (t : List UInt8) : rNumS (some (Wire.be x 4 ++ t)) 4 = some t := (numS_app _ t 4 (by decide) (Wire.be_length x 4)).1
theorem nS8 (x : Nat) (t : List UInt8) : rNumS (some (Wire.be x 8 ++ t)) 8 = some t := (numS_app _ t 8 (by decide) (Wire.be_length x 8)).1
theorem nV1 (x : Nat) (t : List UInt8) (h : x < 256) : rNumV (some (Wire.be x 1 ++ t)) 1 = x := (numS_app _ t 1 (by decide) (Wire.be_length x 1)).2.trans (beV_be x 1 h)
theorem nV2 (x : Nat) (t : List UInt8) (h : x < 65536) : rNumV (some (Wire.be x 2 ++ t)) 2 = x := (numS_app _ t 2 (by decide) (Wire.be_length x 2)).2.trans (beV_be x 2 h)
theorem nV4 (x : Nat) (t : List UInt8) (h : x < 4294967296) : rNumV (some (Wire.be x 4 ++ t)) 4 = x := (numS_app _ t 4 (by decide) (Wire.be_length x 4)).2.trans (beV_be x 4 h)
theorem nV8 (x : Nat) (t : List UInt8) (h : x < 18446744073709551616) : rNumV (some (Wire.be x 8 ++ t)) 8 = x := (numS_app _ t 8 (by decide) (Wire.be_length x 8)).2.trans (beV_be x 8 h)
theorem mGet_enc {m : Ml} (ht : U64 m.tk) (hm : m.may = true) : mGet (encM m) = m ∧ mEnd (encM m) = some [] := by
  obtain ⟨hk, hn, hc, hco, hd, hw, hz2, hz3, hzc⟩ := ml_facts hm
  clear hm hn
  obtain ⟨k, tk, c, d, co, fl, dy, va, st, ho, nx⟩ := m
  simp only at ht hk hc hco hd hw hz2 hz3 hzc
  obtain ⟨t0, t1⟩ := ht
  obtain ⟨K, rfl⟩ := Int.eq_ofNat_of_zero_le (show 0 ≤ k by omega)
  obtain ⟨T, rfl⟩ := Int.eq_ofNat_of_zero_le t0
  obtain ⟨C, rfl⟩ := Int.eq_ofNat_of_zero_le (show 0 ≤ c by omega)
  have hK : K < 256 := by omega
  have hT : T < 18446744073709551616 := by omega
  have hC : C < 256 := by omega
  unfold encM encMh mGet mEnd
  simp only [Int.toNat_natCast, List.append_assoc]
  by_cases h3 : (K : Int) = 3
  · obtain rfl : K = 3 := by omega
    obtain ⟨O, rfl⟩ := Int.eq_ofNat_of_zero_le (show 0 ≤ co by have := hco h3; omega)
    have hO : O < 256 := by have := hco h3; omega
    have e0 := hz3 h3
    obtain ⟨z1, z2, z3, z4, z5, z6⟩ := hz2 (by omega)
    subst e0 z1 z2 z3 z4 z5 z6
    rw [if_pos h3, Int.toNat_natCast, ← List.append_nil (Wire.be O 1)]
    simp only [nV1 _ _ hK, nV8 _ _ hT, nV1 _ _ hC, nV1 _ _ hO, nS1, nS8]
    exact ⟨rfl, rfl⟩
  · rw [if_neg h3]
    have h3' : ¬ K = 3 := by omega
    obtain ⟨D, rfl⟩ := Int.eq_ofNat_of_zero_le (show 0 ≤ d by have := hd h3; omega)
    have hD : D < 4294967296 := by have := hd h3; omega
    have e0 := hzc h3
    subst e0
    by_cases h2 : (K : Int) = 2
    · obtain rfl : K = 2 := by omega
      obtain ⟨w1, w2, w3, w4, w5, w6⟩ := hw h2
      obtain ⟨L, rfl⟩ := Int.eq_ofNat_of_zero_le (show 0 ≤ fl by omega)
      obtain ⟨Y, rfl⟩ := Int.eq_ofNat_of_zero_le (show 0 ≤ dy by omega)
      obtain ⟨V, rfl⟩ := Int.eq_ofNat_of_zero_le (show 0 ≤ va by omega)
      have hL : L < 65536 := by omega
      have hY : Y < 4294967296 := by omega
      have hV : V < 18446744073709551616 := by omega
      subst w4 w5 w6
      rw [if_pos h2]
      simp only [Int.toNat_natCast]
      rw [← List.append_nil (Wire.be V 8)]
      simp only [nV1 _ _ hK, nV8 _ _ hT, nV1 _ _ hC, nV4 _ _ hD, nV2 _ _ hL, nV4 _ _ hY, nV8 _ _ hV, nS1, nS8, nS2, nS4]
      refine ⟨?_, rfl⟩
      have hwr : wrap64 (V : Int) = (V : Int) := by unfold wrap64; omega
      simp [hwr]
    · obtain ⟨z1, z2, z3, z4, z5, z6⟩ := hz2 h2
      subst z1 z2 z3 z4 z5 z6
      have h2' : ¬ K = 2 := by omega
      rw [if_neg h2, Int.toNat_natCast, ← List.append_nil (Wire.be D 4)]
      simp only [nV1 _ _ hK, nV8 _ _ hT, nV1 _ _ hC, nV4 _ _ hD, nS1, nS8, nS4, if_neg h3', if_neg h2']
      exact ⟨trivial, trivial⟩
theorem okM_enc {m : Ml} (ht : U64 m.tk) (hm : m.may = true) : okM (encM m) = true ∧ mOf (encM m) = m := by
  obtain ⟨h1, h2⟩ := mGet_enc ht hm
  have h : okM (encM m) = true := by unfold okM; rw [h1, h2, hm]; rfl
  exact ⟨h, by unfold mOf; rw [if_pos h, h1]⟩
theorem lGet_enc {x : Lt} (hw : x.wf) (hm : x.may = true) : okL20 (encLt x) = true ∧ lGet (encLt x) = x := by
  obtain ⟨hf, ht, hne, hn, ha, hz, hml⟩ := lt_facts hm
  obtain ⟨n0, n1⟩ := hw.n
  obtain ⟨a0, a1⟩ := hw.a
  have htk := hw.tk
  have hmm := hm
  obtain ⟨f, t, n, a, k, tk, c, d, co, fl, dy, va, st, ho, nx⟩ := x
  simp only at hf ht hne hn ha hz hml n0 n1 a0 a1 htk
  obtain ⟨F, rfl⟩ := Int.eq_ofNat_of_zero_le (show 0 ≤ f by omega)
  obtain ⟨T, rfl⟩ := Int.eq_ofNat_of_zero_le (show 0 ≤ t by omega)
  obtain ⟨N, rfl⟩ := Int.eq_ofNat_of_zero_le n0
  obtain ⟨A, rfl⟩ := Int.eq_ofNat_of_zero_le a0
  have hF : F < 65536 := by omega
  have hT : T < 65536 := by omega
  have hN : N < 18446744073709551616 := by omega
  have hA : A < 18446744073709551616 := by omega
  generalize hX : (⟨(F : Int), (T : Int), (N : Int), (A : Int), k, tk, c, d, co, fl, dy, va, st, ho, nx⟩ : Lt) = X at *
  have hml0 : X.ml = ⟨k, tk, c, d, co, fl, dy, va, st, ho, nx⟩ := by rw [← hX]; rfl
  have eh : encLh X = Wire.be F 2 ++ (Wire.be T 2 ++ (Wire.be N 8 ++ Wire.be A 8)) := by
    rw [← hX]; unfold encLh; simp only [Int.toNat_natCast, List.append_assoc]
  have hl20 : (encLh X).length = 20 := by rw [eh]; simp only [List.length_append, Wire.be_length]
  have hX2 : X.n = (N : Int) := by rw [← hX]
  have e : ∃ R, encLt X = encLh X ++ R ∧ (N = 0 → R = []) ∧ (¬ N = 0 → R = encM X.ml) := by
    unfold encLt
    rw [hX2]
    by_cases h0 : N = 0
    · rw [if_pos (by omega)]; exact ⟨[], by simp, fun _ => rfl, fun h => absurd h0 h⟩
    · rw [if_neg (by omega)]; exact ⟨_, rfl, fun h => absurd h h0, fun _ => rfl⟩
  obtain ⟨R, hR, hR0, hR1⟩ := e
  have et : (encLt X).take 20 = Wire.be F 2 ++ (Wire.be T 2 ++ (Wire.be N 8 ++ (Wire.be A 8 ++ []))) := by
    rw [hR, ← hl20, List.take_left, eh, List.append_nil]
  have ed : (encLt X).drop 20 = R := by rw [hR, ← hl20, List.drop_left]
  have s1 : lS1 (encLt X) = some (Wire.be T 2 ++ (Wire.be N 8 ++ (Wire.be A 8 ++ []))) := by unfold lS1; rw [et, nS2]
  have s2 : lS2 (encLt X) = some (Wire.be N 8 ++ (Wire.be A 8 ++ [])) := by unfold lS2; rw [s1, nS2]
  have s3 : lS3 (encLt X) = some (Wire.be A 8 ++ []) := by unfold lS3; rw [s2, nS8]
  have s4 : lS4 (encLt X) = some [] := by unfold lS4; rw [s3, nS8]
  have hN1 : lNum (encLt X) = N := by unfold lNum; rw [s2, nV8 _ _ hN]
  have hMail : lMail (encLt X) = X.ml := by
    unfold lMail
    rw [hN1, ed]
    by_cases h0 : N = 0
    · rw [if_pos h0, hz (by rw [h0]; rfl)]
    · rw [if_neg h0, hR1 h0]
      exact (okM_enc (by rw [hml0]; exact htk) (hml (by omega))).2
  have hG : lGet (encLt X) = X := by
    unfold lGet
    rw [hMail, hN1, s1, s3, et, nV2 _ _ hF, nV2 _ _ hT, nV8 _ _ hA, hml0, ← hX]
  refine ⟨?_, hG⟩
  unfold okL20
  rw [s4, hN1, ed, hG, hmm]
  by_cases h0 : N = 0
  · rw [if_pos h0, hR0 h0]; rfl
  · rw [if_neg h0, hR1 h0, (okM_enc (by rw [hml0]; exact htk) (hml (by omega))).1]; rfl
theorem encLt_inj {x y : Lt} (hx : x.wf) (hy : y.wf) (mx : x.may = true) (my : y.may = true) (h : encLt x = encLt y) : x = y := by
  rw [← (lGet_enc hx mx).2, h, (lGet_enc hy my).2]
end Go.Proofs.YtellhmbebimenaaDoor
end

section
set_option linter.unusedVariables false
set_option linter.unusedSimpArgs false
namespace Go.Proofs.YtellhmbebimenaaDoor
open Go.RowKit

set_option maxRecDepth 4000 in
set_option maxHeartbeats 1000000 in
theorem put14_any (base : Nat) (v : Value) (L : List UInt8) (N : Nat) (hN : N < 18446744073709551616) (s : Nat) (hs : s = 1 ∨ s = 2 ∨ s = 4 ∨ s = 8) (hfit : N < 256 ^ s) (hL : L.length ≤ 1000) (w : World) (hb : base ≤ w.heap.size) (ho : w.ownsRow base 5 1 v L.length (bytesV L)) :
    Calls Tryd.prog 78 #[v, .int .u64 (N : Int), .int .i64 (s : Int)] w fun e w' => ∃ u, e = .returned u ∧ w'.ownsRow base 5 1 u (L ++ Wire.be N s).length (bytesV (L ++ Wire.be N s)) ∧ w.grownBy w' v.ownBlock := by
  have HNU := Lib.hid (rNumber_any N hN (s : Int) w)
  have hp : pNum N (s : Int) = some (Wire.be N s) := by
    unfold pNum
    rw [if_pos ⟨by rcases hs with rfl | rfl | rfl | rfl <;> rfl, by rw [Int.toNat_natCast]; exact hfit⟩, Int.toNat_natCast]
  rw [hp] at HNU
  have HLB := Lib.hid (Wire.be_length N s)
  have HO := Lib.hid ho
  have HLL := Lib.hid hL
  obtain ⟨q, c, rfl⟩ := own_form ho
  clear hp hfit ho hL
  rw [show pGet (some (Wire.be N s)) = Wire.be N s from rfl, show (some (Wire.be N s)).isSome = true from rfl] at HNU
  generalize Wire.be N s = B at *
  generalize hLn : L.length = nl at *
  have HLN := Lib.hid hLn
  clear hLn
  go_enter Tryd.func78, Tryd.ntmps78
  go_wp2_with fail
  refine HNU.out.mono ?_
  rintro e w1 ⟨u, rfl, hown, hb1⟩
  have HOB := Lib.hid (BS.of_own hown)
  have HB := Lib.hid hb1
  have HO1 := Lib.hid (own_below HO.out hb1)
  obtain ⟨q1, c1, rfl⟩ := own_form hown
  clear hown hb1
  go_wp2_with (at_builtin; refine wpList_append_bytes rfl _ _ rfl base _ _ _ rfl HO1.out _ B rfl HOB.out ?c1 ?c2 ?_)
  case c1 => have := HLB.out; have := HLL.out; omega
  case c2 => have := HB.out.size; omega
  intro v2 w2 hown2 hg2 hn2 hat2
  have HG : Hid (w.grownBy w2 (Value.slice q nl c).ownBlock) := Lib.hid ⟨hg2.os.trans HB.out.os, hg2.tape.trans HB.out.tape, hg2.output.trans HB.out.output, Nat.le_trans HB.out.size hg2.size, fun k hk hne => (hg2.block k (Nat.lt_of_lt_of_le hk HB.out.size) hne).trans (HB.out.block k hk)⟩
  have HO2 : Hid (w2.ownsRow base 5 1 v2 (L ++ B).length (bytesV (L ++ B))) := Lib.hid (by rw [List.length_append, bytesV_append, HLN.out]; exact hown2)
  obtain ⟨q2, c2, rfl⟩ := own_form hown2
  clear hown2 hg2 hn2 hat2
  go_wp2
  go_ret
  exact ⟨_, rfl, by rw [List.length_append, HLN.out]; have := HO2.out; rwa [List.length_append, HLN.out] at this, HG.out⟩
end Go.Proofs.YtellhmbebimenaaDoor
end

section
set_option linter.unusedVariables false
set_option linter.unusedSimpArgs false
namespace Go.Proofs.YtellhmbebimenaaDoor
open Go.RowKit

theorem row_put {W W' : World} {base n g : Nat} {v : Value} {xs : List Value} {cs : Array Value} {t : TypeId} {fr : Nat × Nat} (ho : W.ownsRow base 5 1 v n xs) (hg : W.grownBy W' v.ownBlock) (hr : W.heap[g]? = some (.cells cs t fr)) (ht : t ≠ 5) : W'.heap[g]? = some (.cells cs t fr) := by
  refine (hg.block g (block_lt hr) ?_).trans hr
  intro e
  rcases ho.2 with ⟨rfl, _⟩ | ⟨g', cap, cur, rfl, _, hh, _⟩
  · cases e
  · have : g = g' := by injection e
    subst this
    rw [hr] at hh
    injection hh with hh
    injection hh with _ h2 _
    exact ht h2
theorem below_put {w W W' : World} {base n : Nat} {v : Value} {xs : List Value} (hb : Below base w W) (hbase : base ≤ W.heap.size) (ho : W.ownsRow base 5 1 v n xs) (hg : W.grownBy W' v.ownBlock) : Below base w W' :=
  hb.grown hg hbase (fun q hq => (ho.lt q hq).1)

end Go.Proofs.YtellhmbebimenaaDoor
end
