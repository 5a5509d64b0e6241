/- Contracts of package wire's Writer: Bytes, Number, Int, Flag, Blob, Text, Count, Len, End. Contracts of package wire's Writer, on: Int, Flag, Blob, Text, Count, Len, End; and the chapter's rows (known). The wire chapter's rows (known), and small words on worlds. Contracts: mayHead, mayCoupon, mayTaxes of the ticket package. -/
import Derived.Test.YtadabjkhiaidcaaDsl7
import Derived.Test.YtadabjkhiaidcaaDsl6
import Derived.Test.YtadabjkhiaidcaaDsl4

section
set_option linter.unusedVariables false
set_option linter.unusedSimpArgs false
namespace Go.Proofs.Ytadabjkhiaidcaa
open Go.RowKit

/-! ### Number -/
def rowB (l : List UInt8) : Array Value := (bytesV l).toArray
theorem rowB_at {l : List UInt8} {j : Nat} (h : j < l.length) : (rowB l)[j]? = some (.int .u8 ((l.getD j 0).toNat : Int)) := by
  unfold rowB; simp [bytesV, h, List.getD_eq_getElem?_getD]
theorem rowB_set (l : List UInt8) (j : Nat) (x : UInt8) : (rowB l).setIfInBounds j (.int .u8 (x.toNat : Int)) = rowB (l.set j x) := by
  unfold rowB bytesV; simp [List.map_set]
theorem BS.of_row {w : World} {g : Nat} {L : List UInt8} {t : TypeId} {fr : Nat × Nat} (h : w.heap[g]? = some (.cells (rowB L) t fr)) (o m cap : Nat) (hm : o + m ≤ L.length) (hc : m ≤ cap) (hcap : cap ≤ maxLen) :
    BS w (.slice (some ⟨g, o, none⟩) m cap) ((L.drop o).take m) := by
  have hl : ((L.drop o).take m).length = m := by rw [List.length_take, List.length_drop]; omega
  refine ⟨_, cap, by rw [hl], by omega, hcap, fun _ => ⟨g, o, rfl, block_lt h, fun i x hx => ?_⟩⟩
  have hi : i < m := by have := (List.getElem?_eq_some_iff.1 hx).1; omega
  rw [List.getElem?_take_of_lt hi, List.getElem?_drop] at hx
  rw [cell_of_row w g _ _ _ _ h]
  unfold rowB
  rw [List.getElem?_toArray, bytesV_at, hx]
  rfl
def rowE (N j : Nat) : List UInt8 := List.replicate (8 - j) 0 ++ Wire.be N j
theorem rowE_length (N j : Nat) (hj : j ≤ 8) : (rowE N j).length = 8 := by unfold rowE; rw [List.length_append, List.length_replicate, Wire.be_length]; omega
theorem rowE_set (N j : Nat) (hj : j < 8) : (rowE N j).set (7 - j) (UInt8.ofNat (N / 256 ^ j % 256)) = rowE N (j + 1) := by
  unfold rowE
  rw [Wire.be_cons]
  have h8 : 8 - j = (7 - j) + 1 := by omega
  have h7 : 8 - (j + 1) = 7 - j := by omega
  rw [h8, h7, List.replicate_succ', List.append_assoc, List.set_append_right _ _ (by simp)]
  simp

theorem byte_atW (N j : Nat) : Value.int .u8 ((N : Int) / 2 ^ (8 * j) % 256) = .int .u8 (((UInt8.ofNat (N / 256 ^ j % 256)).toNat : Nat) : Int) := by
  have h : (UInt8.ofNat (N / 256 ^ j % 256)).toNat = N / 256 ^ j % 256 := by rw [UInt8.toNat_ofNat']; omega
  rw [h, show (2 : Int) ^ (8 * j) = ((256 ^ j : Nat) : Int) from by rw [Int.pow_mul]; simp]
  simp
theorem wnum_at {st : Option (List UInt8)} {N s : Nat} (hs : Wire.maySize (s : Int) = true) : Wire.wNum st N (s : Int) = if decide (N < 256 ^ s) = true then Wire.wBytes st (Wire.be N s) else none := by
  unfold Wire.wNum Wire.wBytes
  rw [Int.toNat_natCast]
  by_cases h : N < 256 ^ s
  · rw [if_pos ⟨hs, h⟩, if_pos (by simpa using h)]
  · rw [if_neg (fun h' => h h'.2), if_neg (by simpa using h)]
theorem wnum_far {st : Option (List UInt8)} {N : Nat} {s : Int} (hs : Wire.maySize s = false) : Wire.wNum st N s = none := by
  unfold Wire.wNum
  rw [if_neg (by simp [hs])]
theorem row_bs {w : World} {g : Nat} {N s t cap : Nat} {ty : TypeId} {fr : Nat × Nat} (h : w.heap[g]? = some (.cells (rowB (Wire.be N (s + t))) ty fr)) (hc : s ≤ cap) (hcap : cap ≤ maxLen) : BS w (.slice (some ⟨g, 0, none⟩) s cap) ((Wire.be N (s + t)).take s) := by
  have := BS.of_row h 0 s cap (by rw [Wire.be_length]; omega) hc hcap
  simpa using this
theorem row_bs' {w : World} {g : Nat} {N s t cap : Nat} {ty : TypeId} {fr : Nat × Nat} (h : w.heap[g]? = some (.cells (rowB (Wire.be N (s + t))) ty fr)) (hc : t ≤ cap) (hcap : cap ≤ maxLen) : BS w (.slice (some ⟨g, s, none⟩) t cap) (Wire.be N t) := by
  have := BS.of_row h s t cap (by rw [Wire.be_length]; omega) hc hcap
  rwa [Wire.be_drop, List.take_of_length_le (by rw [Wire.be_length]; omega)] at this
theorem zeros_bs {w : World} {g s : Nat} {ty : TypeId} {fr : Nat × Nat} (h : w.heap[g]? = some (.cells (rowB (List.replicate s 0)) ty fr)) (hcap : s ≤ maxLen) : BS w (.slice (some ⟨g, 0, none⟩) s s) (List.replicate s 0) := by
  have := BS.of_row h 0 s s (by simp) (Nat.le_refl _) hcap
  simpa using this

end Go.Proofs.Ytadabjkhiaidcaa
end

section
set_option linter.unusedVariables false
set_option linter.unusedSimpArgs false
namespace Go.Proofs.Ytadabjkhiaidcaa
open Go.RowKit

def u64 (n : Int) : Nat := (n % 18446744073709551616).toNat
theorem u64_lt (n : Int) : u64 n < 18446744073709551616 := by unfold u64; omega
theorem u64_eq (n : Int) : IntKind.u64.wrap n = ((u64 n : Nat) : Int) := by rw [IntKind.wrap_u64]; unfold u64; omega
theorem u64_nat (N : Nat) (h : N < 18446744073709551616) : u64 N = N := by unfold u64; omega

def wLen (st : Option (List UInt8)) : Nat := match st with | none => 0 | some l => l.length
end Go.Proofs.Ytadabjkhiaidcaa
end

section
set_option linter.unusedVariables false
set_option linter.unusedSimpArgs false
namespace Go.Proofs.Ytadabjkhiaidcaa
open Go.RowKit

theorem i64_bdW {n : Int} (h : (Lit.int .i64 n).wf = true) : -9223372036854775808 ≤ n ∧ n ≤ 9223372036854775807 := by
  simpa [Lit.wf, IntKind.min, IntKind.max, IntKind.signed, IntKind.bits] using h
theorem u64_bdW {n : Int} (h : (Lit.int .u64 n).wf = true) : 0 ≤ n ∧ n ≤ 18446744073709551615 := by
  simpa [Lit.wf, IntKind.min, IntKind.max, IntKind.signed, IntKind.bits] using h
theorem ballocW {a w : World} (h : Below a.heap.size a w) (o : Obj) : Below a.heap.size a (w.alloc o) := h.alloc h.size o
theorem below_callW {a w w' : World} (h : Below a.heap.size a w) (hx : Below w.heap.size w w') : Below a.heap.size a w' := h.trans (hx.mono h.size)

def kn1 : List UInt8 := [0, 0, 1, 2]
def kn2 : List UInt8 := [0, 0, 1, 2, 255, 255, 255, 255, 255, 255, 255, 255]
def kn3 : List UInt8 := [0, 0, 1, 2, 255, 255, 255, 255, 255, 255, 255, 255, 0, 0, 0, 1, 7]
end Go.Proofs.Ytadabjkhiaidcaa
end

section
set_option linter.unusedVariables false
set_option linter.unusedSimpArgs false
namespace Go.Proofs.Ytadabjkhiaidcaa
open Go.RowKit

theorem statusMay_any (n : Int) (w : World) : Calls Try.prog 72 #[.int .i64 n] w fun e w' => e = .returned (.bool (Tkt.stB n)) ∧ w = w' := by
  go_enter Try.func72, Try.ntmps72
  go_wp2
  all_goals
    go_ret
    refine ⟨ret_bool ?_, rfl⟩
    unfold Tkt.stB
    simp; omega

theorem bits_any (n : Int) (w : World) : Calls Try.prog 73 #[.int .i64 n] w fun e w' => e = .returned (.int .i64 (Tkt.bitsI n)) ∧ w = w' := by
  go_enter Try.func73, Try.ntmps73
  go_wp2
  all_goals
    go_ret
    refine ⟨ret_int ?_, rfl⟩
    unfold Tkt.bitsI
    simp_all

set_option maxRecDepth 10000 in
set_option maxHeartbeats 4000000 in
theorem mayHead_any (t : Tk) (c x h : Sl) (hw : t.wf) (w : World) : Calls Try.prog 83 #[.agg #[.int .u64 t.num, .string t.loc, .int .i64 t.iss, .slice c.p c.n c.c, .slice x.p x.n x.c, .int .u64 t.prev, .int .u64 t.org, .int .u64 t.fst, .int .i64 t.vou, .int .i64 t.posts, .slice h.p h.n h.c]] w fun e w' => e = .returned (.bool (Tkt.headB t)) ∧ Below w.heap.size w w' := by
  obtain ⟨w1, w2, w3, -, -, w4, w5, w6, w7, w8, -⟩ := hw
  have HL : Hid (t.loc.size ≤ maxLen) := Lib.hid w2
  have HB := Lib.hid ((Below.refl w.heap.size w).alloc (Nat.le_refl _) (.cells #[.int .u64 t.num, .string t.loc, .int .i64 t.iss, .slice c.p c.n c.c, .slice x.p x.n x.c, .int .u64 t.prev, .int .u64 t.org, .int .u64 t.fst, .int .i64 t.vou, .int .i64 t.posts, .slice h.p h.n h.c] 45 (0, 0)))
  have HR := Lib.hid (new_rowW w (.cells #[.int .u64 t.num, .string t.loc, .int .i64 t.iss, .slice c.p c.n c.c, .slice x.p x.n x.c, .int .u64 t.prev, .int .u64 t.org, .int .u64 t.fst, .int .i64 t.vou, .int .i64 t.posts, .slice h.p h.n h.c] 45 (0, 0)) _ rfl)
  have hc := fun j => cell_of_row _ w.heap.size j _ _ _ HR.out
  have HFIN : Hid (Tkt.headB t = _) := Lib.hid (by unfold Tkt.headB; rfl)
  have HO := Lib.hid (fun n hn W => other_any t c x h n hn W)
  have HLO := Lib.hid (fun W => locator_any t.loc W HL.out)
  have HN1 := Lib.hid (fun W => numbered_any t.num w1 W)
  have HN2 := Lib.hid (fun W => numbered_any t.fst w6 W)
  have HD := Lib.hid (fun W => tday_any t.iss W)
  have hz : Tkt.othB t.num 0 = false := by simp [Tkt.othB, Tkt.numB, Num.check]
  have HZ := Lib.hid hz
  clear w2 hz
  obtain ⟨num, loc, iss, cs, ts, prev, org, fst, vou, posts, hs⟩ := t
  simp only at *
  generalize Num.loc loc.data.toList = LB at *
  generalize Tkt.numB num = N1 at *
  generalize Tkt.numB fst = N2 at *
  generalize Tkt.dayB iss = D at *
  generalize ho : Tkt.othB num = othF at *
  clear ho
  by_cases hp : prev = 0
  · subst hp
    by_cases hq : org = num
    · subst hq
      go_enter Try.func83, Try.ntmps83
      go_wp2_with (first | (go_at_call 97; (first | (with_reducible refine (HZO.out _).mono ?_) | (with_reducible refine (HO.out _ w4 _).mono ?_) | (with_reducible refine (HO.out _ w5 _).mono ?_)); rintro e wn ⟨rfl, hbn⟩; have HB := Lib.hid (HB.out.trans (hbn.mono HB.out.size)); have HR := Lib.hid ((hbn.block _ (block_lt HR.out)).trans HR.out); have hc := fun j => cell_of_row _ w.heap.size j _ _ _ HR.out; clear hbn) | (go_at_call 99; (first | (with_reducible refine (HN1.out _).mono ?_) | (with_reducible refine (HN2.out _).mono ?_)); rintro e w' ⟨rfl, rfl⟩) | (go_at_call 23; refine (HLO.out _).mono ?_; rintro e wn ⟨rfl, hbn⟩; have HB := Lib.hid (HB.out.trans (hbn.mono HB.out.size)); have HR := Lib.hid ((hbn.block _ (block_lt HR.out)).trans HR.out); have hc := fun j => cell_of_row _ w.heap.size j _ _ _ HR.out; clear hbn) | (go_at_call 100; refine (HD.out _).mono ?_; rintro e w' ⟨rfl, rfl⟩))
      all_goals
      go_ret
      refine ⟨ret_bool ?_, HB.out⟩
      rw [HFIN.out, Bool.eq_iff_iff]
      simp_all
      try omega
    · have HZO := Lib.hid (fun W => HO.out 0 w4 W)
      rw [HZ.out] at HZO
      go_enter Try.func83, Try.ntmps83
      go_wp2_with (first | (go_at_call 97; (first | (with_reducible refine (HZO.out _).mono ?_) | (with_reducible refine (HO.out _ w4 _).mono ?_) | (with_reducible refine (HO.out _ w5 _).mono ?_)); rintro e wn ⟨rfl, hbn⟩; have HB := Lib.hid (HB.out.trans (hbn.mono HB.out.size)); have HR := Lib.hid ((hbn.block _ (block_lt HR.out)).trans HR.out); have hc := fun j => cell_of_row _ w.heap.size j _ _ _ HR.out; clear hbn) | (go_at_call 99; (first | (with_reducible refine (HN1.out _).mono ?_) | (with_reducible refine (HN2.out _).mono ?_)); rintro e w' ⟨rfl, rfl⟩) | (go_at_call 23; refine (HLO.out _).mono ?_; rintro e wn ⟨rfl, hbn⟩; have HB := Lib.hid (HB.out.trans (hbn.mono HB.out.size)); have HR := Lib.hid ((hbn.block _ (block_lt HR.out)).trans HR.out); have hc := fun j => cell_of_row _ w.heap.size j _ _ _ HR.out; clear hbn) | (go_at_call 100; refine (HD.out _).mono ?_; rintro e w' ⟨rfl, rfl⟩))
      all_goals
      go_ret
      refine ⟨ret_bool ?_, HB.out⟩
      rw [HFIN.out, Bool.eq_iff_iff]
      simp_all
      try omega
  · go_enter Try.func83, Try.ntmps83
    go_wp2_with (first | (go_at_call 97; (first | (with_reducible refine (HZO.out _).mono ?_) | (with_reducible refine (HO.out _ w4 _).mono ?_) | (with_reducible refine (HO.out _ w5 _).mono ?_)); rintro e wn ⟨rfl, hbn⟩; have HB := Lib.hid (HB.out.trans (hbn.mono HB.out.size)); have HR := Lib.hid ((hbn.block _ (block_lt HR.out)).trans HR.out); have hc := fun j => cell_of_row _ w.heap.size j _ _ _ HR.out; clear hbn) | (go_at_call 99; (first | (with_reducible refine (HN1.out _).mono ?_) | (with_reducible refine (HN2.out _).mono ?_)); rintro e w' ⟨rfl, rfl⟩) | (go_at_call 23; refine (HLO.out _).mono ?_; rintro e wn ⟨rfl, hbn⟩; have HB := Lib.hid (HB.out.trans (hbn.mono HB.out.size)); have HR := Lib.hid ((hbn.block _ (block_lt HR.out)).trans HR.out); have hc := fun j => cell_of_row _ w.heap.size j _ _ _ HR.out; clear hbn) | (go_at_call 100; refine (HD.out _).mono ?_; rintro e w' ⟨rfl, rfl⟩))
    all_goals
      go_ret
      refine ⟨ret_bool ?_, HB.out⟩
      rw [HFIN.out, Bool.eq_iff_iff]
      simp_all
      try omega

end Go.Proofs.Ytadabjkhiaidcaa
end
