/- Contracts of package wire's Writer, on: Int, Flag, Blob, Text, Count, Len, End; and the chapter's rows (known). The wire chapter's rows (known), and small words on worlds. Contracts: mayHead, mayCoupon, mayTaxes of the ticket package. -/
import Derived.Test.YtbmphlpmipkpcaaGreatRnm12
import Derived.Test.YtbmphlpmipkpcaaGreatRnm10
import Derived.Test.YtbmphlpmipkpcaaGreatRnm5

section
set_option linter.unusedVariables false
set_option linter.unusedSimpArgs false
namespace Go.Proofs.YtbmphlpmipkpcaaGreat
open Go.RowKit

def u64 (n : Int) : Nat := (n % 18446744073709551616).toNat
theorem u64_lt (n : Int) : u64 n < 18446744073709551616 := by unfold u64; omega
theorem u64_eq (n : Int) : IntKind.u64.wrap n = ((u64 n : Nat) : Int) := by rw [IntKind.wrap_u64]; unfold u64; omega
theorem u64_nat (N : Nat) (h : N < 18446744073709551616) : u64 N = N := by unfold u64; omega

set_option maxHeartbeats 400000 in
theorem wint_any (base bw k : Nat) (st : Option (List UInt8)) (n : Int) (hk : k + 9 ≤ 536870912) (w : World) (h : IsW w base bw k st) :
    Calls Tryz.prog 152 #[.pointer (some ⟨bw, 0, none⟩), .int .i64 n] w fun e w' => e = .returned (.pointer (some ⟨bw, 0, none⟩)) ∧ WStep w w' base bw (k + 9) (Wire.wNum st (u64 n) 8) := by
  have HC := Lib.hid (wnumber_any base bw k st (u64 n) (u64_lt n) 8 hk w h)
  have HU := Lib.hid (u64_eq n)
  clear h
  go_enter Tryz.func152, Tryz.ntmps152
  go_wp2_with fail
  refine Calls.mono (by rw [HU.out]; exact HC.out) ?_
  rintro e w1 ⟨rfl, hw1⟩
  go_wp2
  go_ret
  exact ⟨rfl, hw1⟩

set_option maxHeartbeats 400000 in
theorem wflag_any (base bw k : Nat) (st : Option (List UInt8)) (q : Bool) (hk : k + 9 ≤ 536870912) (w : World) (h : IsW w base bw k st) :
    Calls Tryz.prog 114 #[.pointer (some ⟨bw, 0, none⟩), .bool q] w fun e w' => e = .returned (.pointer (some ⟨bw, 0, none⟩)) ∧ WStep w w' base bw (k + 9) (Wire.wNum st (if q then 1 else 0) 1) := by
  have H := Lib.hid h
  clear h
  cases q
  · go_enter Tryz.func114, Tryz.ntmps114
    go_wp2_with fail
    refine (wnumber_any base bw k st 0 (by decide) 1 hk w H.out).mono ?_
    rintro e w1 ⟨rfl, hw1⟩
    go_wp2
    go_ret
    exact ⟨rfl, hw1⟩
  · go_enter Tryz.func114, Tryz.ntmps114
    go_wp2_with fail
    refine (wnumber_any base bw k st 1 (by decide) 1 hk w H.out).mono ?_
    rintro e w1 ⟨rfl, hw1⟩
    go_wp2
    go_ret
    exact ⟨rfl, hw1⟩

set_option maxHeartbeats 400000 in
theorem wblob_any (base bw k : Nat) (st : Option (List UInt8)) (v : Value) (b : List UInt8) (hk : k + 10 + b.length ≤ 536870912) (w : World) (h : IsW w base bw k st) (hv : BK w base v b) :
    Calls Tryz.prog 88 #[.pointer (some ⟨bw, 0, none⟩), v] w fun e w' => e = .returned (.pointer (some ⟨bw, 0, none⟩)) ∧ WStep w w' base bw (k + 10 + b.length) (Wire.wBlob st b) := by
  have H := Lib.hid h
  have HV := Lib.hid hv
  obtain ⟨⟨p, cap, rfl, g1, g2, -⟩, -⟩ := hv
  clear h
  have HW : Hid (Wire.wBlob st b = if b.length ≤ 16777216 then Wire.wBytes (Wire.wNum st b.length 4) b else none) := Lib.hid rfl
  generalize hn : b.length = n at *
  have HN := Lib.hid hn; clear hn
  unfold maxLen at g2
  by_cases hb : n ≤ 16777216
  · rw [if_pos hb] at HW
    go_enter Tryz.func88, Tryz.ntmps88
    go_wp2_with fail
    refine (wnumber_any base bw k st n (by omega) 4 (by omega) w H.out).mono ?_
    rintro e w1 ⟨rfl, hw1⟩
    have HS1 := Lib.hid hw1
    have HB1 := Lib.hid (HV.out.step hw1)
    clear hw1
    go_wp2_with fail
    refine (wbytes_any base bw (k + 9) _ _ b (by rw [HN.out]; omega) w1 HS1.out.1 HB1.out.1).mono ?_
    rintro e w2 ⟨rfl, hw2⟩
    have HS := Lib.hid ((HS1.out.trans hw2).mono (show _ ≤ k + 10 + n by rw [HN.out]; omega))
    rw [← HW.out] at HS
    clear hw2
    go_wp2
    go_ret
    exact ⟨rfl, HS.out⟩
  · rw [if_neg hb] at HW
    go_enter Tryz.func88, Tryz.ntmps88
    go_wp2_with fail
    refine (wfail_any base bw k st w H.out).mono ?_
    rintro e w1 ⟨rfl, hw1⟩
    have HS := Lib.hid (hw1 (k + 10 + n))
    rw [← HW.out] at HS
    clear hw1
    go_wp2
    go_ret
    exact ⟨rfl, HS.out⟩

theorem conv_text (W : World) (S : ByteArray) (hS : S.size ≤ maxLen) (base : Nat) : ∃ (v : Value) (w1 : World), (convert 9 47 (.string S)).run Tryz.prog W = .ok v w1 ∧ BK w1 base v S.data.toList ∧ Below W.heap.size W w1 ∧ ∃ q c, v = .slice q S.size c := by
  refine ⟨_, _, run_bytes_of_string (P := Tryz.prog) W 9 47 5 S Tryz.underlying9 Tryz.underlying47 Tryz.underlying5, ?_, (Below.refl _ _).drew.alloc (by simp) _, _, _, rfl⟩
  have hl : S.data.toList.length = S.size := by show S.data.toList.length = S.data.size; simp
  have hg : (W.drew.alloc (.cells (bytesRow S (grownCap W S.size 0 5)) 5 ((bytesRow S (grownCap W S.size 0 5)).size, (bytesRow S (grownCap W S.size 0 5)).size + 1))).heap[W.heap.size]? = _ := new_rowW _ _ _ rfl
  refine BK.of_row ⟨_, _, by rw [hl], by rw [hl]; exact grownCap_ge _ _ _ _, grownCap_le_maxLen _ _ _ _ hS, fun _ => ⟨_, 0, rfl, block_lt hg, fun i x hx => ?_⟩⟩ hg (by decide)
  have hi : i < S.data.size := by
    have := (List.getElem?_eq_some_iff.1 hx).1
    simpa using this
  rw [cell_of_row _ _ _ _ _ _ hg, Nat.zero_add, bytesRow_at _ _ _ hi]
  have : S.data[i] = x := by
    rw [List.getElem?_eq_getElem (by simpa using hi)] at hx
    injection hx
  rw [this]

set_option maxHeartbeats 400000 in
theorem wcount_any (base bw k : Nat) (st : Option (List UInt8)) (n : Int) (hn : n ≤ 9223372036854775807) (hk : k + 9 ≤ 536870912) (w : World) (h : IsW w base bw k st) :
    Calls Tryz.prog 86 #[.pointer (some ⟨bw, 0, none⟩), .int .i64 n] w fun e w' => e = .returned (.pointer (some ⟨bw, 0, none⟩)) ∧ WStep w w' base bw (k + 9) (if n < 0 then none else Wire.wNum st n.toNat 2) := by
  have H := Lib.hid h
  clear h
  by_cases h0 : n < 0
  · rw [if_pos h0]
    go_enter Tryz.func86, Tryz.ntmps86
    go_wp2_with fail
    refine (wfail_any base bw k st w H.out).mono ?_
    rintro e w1 ⟨rfl, hw1⟩
    have HS := Lib.hid (hw1 (k + 9))
    clear hw1
    go_wp2
    go_ret
    exact ⟨rfl, HS.out⟩
  · rw [if_neg h0]
    obtain ⟨N, rfl⟩ := Int.eq_ofNat_of_zero_le (show 0 ≤ n by omega)
    rw [Int.toNat_natCast]
    go_enter Tryz.func86, Tryz.ntmps86
    go_wp2_with fail
    refine (wnumber_any base bw k st N (by omega) 2 hk w H.out).mono ?_
    rintro e w1 ⟨rfl, hw1⟩
    go_wp2
    go_ret
    exact ⟨rfl, hw1⟩

def wLen (st : Option (List UInt8)) : Nat := match st with | none => 0 | some l => l.length
theorem IsW.pieces {w : World} {base bw k : Nat} {l : List UInt8} (h : IsW w base bw k (some l)) :
    ∃ (pv : Value) (ps : List (List UInt8)), w.heap[bw]? = some (.cells #[pv, .int .i64 l.length, .bool false] 138 (0, 0)) ∧ ps.flatten = l ∧ PcS w pv ps ∧ l.length ≤ k := by
  obtain ⟨_, pv, ps, vs, h1, h2, h3, h4, h5, h6⟩ := h
  refine ⟨pv, ps, h1, h2, ?_, by omega⟩
  obtain ⟨hlen, hor⟩ := h5
  rcases hor with ⟨rfl, h0⟩ | ⟨g, cap, cur, rfl, hg, hh, hnc, hcm, hcs, htk⟩
  · have : ps = [] := List.length_eq_zero_iff.1 (by omega)
    subst this
    exact ⟨none, 0, rfl, Nat.le_refl _, Nat.zero_le _, fun h => absurd rfl h⟩
  · refine ⟨_, cap, by rw [h3], by omega, hcm, fun _ => ⟨g, 0, rfl, fun i b hb => ?_⟩⟩
    have hi : i < ps.length := (List.getElem?_eq_some_iff.1 hb).1
    have hx : vs[i]? = some vs[i] := List.getElem?_eq_getElem (by omega)
    refine ⟨vs[i], ?_, BS.of_own (h6 i _ b hx hb)⟩
    rw [cell_of_row w g _ cur _ _ hh, Nat.zero_add]
    have h1 : (cur.toList.take (vs.length * 1))[i]? = some vs[i] := by rw [htk, hx]
    rw [List.getElem?_take_of_lt (by omega)] at h1
    simpa using h1

set_option maxHeartbeats 400000 in
theorem wend_some (base bw k : Nat) (l : List UInt8) (hk : k ≤ 1073741824) (w : World) (h : IsW w base bw k (some l)) :
    Calls Tryz.prog 78 #[.pointer (some ⟨bw, 0, none⟩)] w fun e w' => ∃ v, e = .returned (.tuple #[v, .int .i64 0]) ∧ w'.ownsRow w.heap.size 5 1 v l.length (bytesV l) ∧ Below w.heap.size w w' := by
  obtain ⟨pv, ps, hrow, hfl, hpc, hl⟩ := h.pieces
  have hc := fun j => cell_of_row w bw j _ _ _ hrow
  have HPC := Lib.hid hpc
  obtain ⟨q, c, rfl, -⟩ := hpc
  subst hfl
  clear hrow h
  have HL := Lib.hid hl; clear hl
  go_enter Tryz.func78, Tryz.ntmps78
  go_wp2_with fail
  refine (concat_any _ ps (by have := HL.out; omega) w HPC.out).mono ?_
  rintro e w1 ⟨v, rfl, hown, hb⟩
  have HO := Lib.hid hown; clear hown
  go_wp2
  go_ret2
  exact ⟨v, rfl, HO.out, hb⟩

set_option maxHeartbeats 400000 in
theorem wend_none (base bw k : Nat) (w : World) (h : IsW w base bw k none) :
    Calls Tryz.prog 78 #[.pointer (some ⟨bw, 0, none⟩)] w fun e w' => e = .returned (.tuple #[.slice none 0 0, .int .i64 2]) ∧ w = w' := by
  have hc := fun j => cell_of_row w bw j _ _ _ h.2
  clear h
  go_enter Tryz.func78, Tryz.ntmps78
  go_wp2
  go_ret2
  exact ⟨rfl, rfl⟩
end Go.Proofs.YtbmphlpmipkpcaaGreat
end

section
set_option linter.unusedVariables false
set_option linter.unusedSimpArgs false
namespace Go.Proofs.YtbmphlpmipkpcaaGreat
open Go.RowKit

theorem new_writer (w : World) : IsW (w.alloc (.cells #[.slice none 0 0, .int .i64 0, .bool false] 138 (0, 0))) w.heap.size w.heap.size 0 (some []) :=
  ⟨Nat.le_refl _, .slice none 0 0, [], [], new_rowW _ _ _ rfl, rfl, rfl, Nat.le_refl _, World.ownsRow_nil _ _ _ _, fun i x b h => by simp at h⟩
theorem i64_bdW {n : Int} (h : (Lit.int .i64 n).wf = true) : -9223372036854775808 ≤ n ∧ n ≤ 9223372036854775807 := by
  simpa [Lit.wf, IntKind.min, IntKind.max, IntKind.signed, IntKind.bits] using h
theorem u64_bdW {n : Int} (h : (Lit.int .u64 n).wf = true) : 0 ≤ n ∧ n ≤ 18446744073709551615 := by
  simpa [Lit.wf, IntKind.min, IntKind.max, IntKind.signed, IntKind.bits] using h
theorem ballocW {a w : World} (h : Below a.heap.size a w) (o : Obj) : Below a.heap.size a (w.alloc o) := h.alloc h.size o
theorem below_callW {a w w' : World} (h : Below a.heap.size a w) (hx : Below w.heap.size w w') : Below a.heap.size a w' := h.trans (hx.mono h.size)

def kn1 : List UInt8 := [0, 0, 1, 2]
def kn2 : List UInt8 := [0, 0, 1, 2, 255, 255, 255, 255, 255, 255, 255, 255]
def kn3 : List UInt8 := [0, 0, 1, 2, 255, 255, 255, 255, 255, 255, 255, 255, 0, 0, 0, 1, 7]
end Go.Proofs.YtbmphlpmipkpcaaGreat
end

section
set_option linter.unusedVariables false
set_option linter.unusedSimpArgs false
namespace Go.Proofs.YtbmphlpmipkpcaaGreat
open Go.RowKit

theorem statusMay_any (n : Int) (w : World) : Calls Tryz.prog 205 #[.int .i64 n] w fun e w' => e = .returned (.bool (Tkt.stB n)) ∧ w = w' := by
  go_enter Tryz.func205, Tryz.ntmps205
  go_wp2
  all_goals
    go_ret
    refine ⟨ret_bool ?_, rfl⟩
    unfold Tkt.stB
    simp; omega

theorem bits_any (n : Int) (w : World) : Calls Tryz.prog 218 #[.int .i64 n] w fun e w' => e = .returned (.int .i64 (Tkt.bitsI n)) ∧ w = w' := by
  go_enter Tryz.func218, Tryz.ntmps218
  go_wp2
  all_goals
    go_ret
    refine ⟨ret_int ?_, rfl⟩
    unfold Tkt.bitsI
    simp_all

set_option maxRecDepth 10000 in
set_option maxHeartbeats 4000000 in
theorem mayHead_any (t : Tk) (c x h : Sl) (hw : t.wf) (w : World) : Calls Tryz.prog 159 #[.agg #[.int .u64 t.num, .string t.loc, .int .i64 t.iss, .slice c.p c.n c.c, .slice x.p x.n x.c, .int .u64 t.prev, .int .u64 t.org, .int .u64 t.fst, .int .i64 t.vou, .int .i64 t.posts, .slice h.p h.n h.c]] w fun e w' => e = .returned (.bool (Tkt.headB t)) ∧ Below w.heap.size w w' := by
  obtain ⟨w1, w2, w3, -, -, w4, w5, w6, w7, w8, -⟩ := hw
  have HL : Hid (t.loc.size ≤ maxLen) := Lib.hid w2
  have HB := Lib.hid ((Below.refl w.heap.size w).alloc (Nat.le_refl _) (.cells #[.int .u64 t.num, .string t.loc, .int .i64 t.iss, .slice c.p c.n c.c, .slice x.p x.n x.c, .int .u64 t.prev, .int .u64 t.org, .int .u64 t.fst, .int .i64 t.vou, .int .i64 t.posts, .slice h.p h.n h.c] 27 (0, 0)))
  have HR := Lib.hid (new_rowW w (.cells #[.int .u64 t.num, .string t.loc, .int .i64 t.iss, .slice c.p c.n c.c, .slice x.p x.n x.c, .int .u64 t.prev, .int .u64 t.org, .int .u64 t.fst, .int .i64 t.vou, .int .i64 t.posts, .slice h.p h.n h.c] 27 (0, 0)) _ rfl)
  have hc := fun j => cell_of_row _ w.heap.size j _ _ _ HR.out
  have HFIN : Hid (Tkt.headB t = _) := Lib.hid (by unfold Tkt.headB; rfl)
  have HO := Lib.hid (fun n hn W => other_any t c x h n hn W)
  have HLO := Lib.hid (fun W => locator_any t.loc W HL.out)
  have HN1 := Lib.hid (fun W => numbered_any t.num w1 W)
  have HN2 := Lib.hid (fun W => numbered_any t.fst w6 W)
  have HD := Lib.hid (fun W => tday_any t.iss W)
  have hz : Tkt.othB t.num 0 = false := by simp [Tkt.othB, Tkt.numB, Num.check]
  have HZ := Lib.hid hz
  clear w2 hz
  obtain ⟨num, loc, iss, cs, ts, prev, org, fst, vou, posts, hs⟩ := t
  simp only at *
  generalize Num.loc loc.data.toList = LB at *
  generalize Tkt.numB num = N1 at *
  generalize Tkt.numB fst = N2 at *
  generalize Tkt.dayB iss = D at *
  generalize ho : Tkt.othB num = othF at *
  clear ho
  by_cases hp : prev = 0
  · subst hp
    by_cases hq : org = num
    · subst hq
      go_enter Tryz.func159, Tryz.ntmps159
      go_wp2_with (first | (go_at_call 199; (first | (with_reducible refine (HZO.out _).mono ?_) | (with_reducible refine (HO.out _ w4 _).mono ?_) | (with_reducible refine (HO.out _ w5 _).mono ?_)); rintro e wn ⟨rfl, hbn⟩; have HB := Lib.hid (HB.out.trans (hbn.mono HB.out.size)); have HR := Lib.hid ((hbn.block _ (block_lt HR.out)).trans HR.out); have hc := fun j => cell_of_row _ w.heap.size j _ _ _ HR.out; clear hbn) | (go_at_call 200; (first | (with_reducible refine (HN1.out _).mono ?_) | (with_reducible refine (HN2.out _).mono ?_)); rintro e w' ⟨rfl, rfl⟩) | (go_at_call 188; refine (HLO.out _).mono ?_; rintro e wn ⟨rfl, hbn⟩; have HB := Lib.hid (HB.out.trans (hbn.mono HB.out.size)); have HR := Lib.hid ((hbn.block _ (block_lt HR.out)).trans HR.out); have hc := fun j => cell_of_row _ w.heap.size j _ _ _ HR.out; clear hbn) | (go_at_call 201; refine (HD.out _).mono ?_; rintro e w' ⟨rfl, rfl⟩))
      all_goals
      go_ret
      refine ⟨ret_bool ?_, HB.out⟩
      rw [HFIN.out, Bool.eq_iff_iff]
      simp_all
      try omega
    · have HZO := Lib.hid (fun W => HO.out 0 w4 W)
      rw [HZ.out] at HZO
      go_enter Tryz.func159, Tryz.ntmps159
      go_wp2_with (first | (go_at_call 199; (first | (with_reducible refine (HZO.out _).mono ?_) | (with_reducible refine (HO.out _ w4 _).mono ?_) | (with_reducible refine (HO.out _ w5 _).mono ?_)); rintro e wn ⟨rfl, hbn⟩; have HB := Lib.hid (HB.out.trans (hbn.mono HB.out.size)); have HR := Lib.hid ((hbn.block _ (block_lt HR.out)).trans HR.out); have hc := fun j => cell_of_row _ w.heap.size j _ _ _ HR.out; clear hbn) | (go_at_call 200; (first | (with_reducible refine (HN1.out _).mono ?_) | (with_reducible refine (HN2.out _).mono ?_)); rintro e w' ⟨rfl, rfl⟩) | (go_at_call 188; refine (HLO.out _).mono ?_; rintro e wn ⟨rfl, hbn⟩; have HB := Lib.hid (HB.out.trans (hbn.mono HB.out.size)); have HR := Lib.hid ((hbn.block _ (block_lt HR.out)).trans HR.out); have hc := fun j => cell_of_row _ w.heap.size j _ _ _ HR.out; clear hbn) | (go_at_call 201; refine (HD.out _).mono ?_; rintro e w' ⟨rfl, rfl⟩))
      all_goals
      go_ret
      refine ⟨ret_bool ?_, HB.out⟩
      rw [HFIN.out, Bool.eq_iff_iff]
      simp_all
      try omega
  · go_enter Tryz.func159, Tryz.ntmps159
    go_wp2_with (first | (go_at_call 199; (first | (with_reducible refine (HZO.out _).mono ?_) | (with_reducible refine (HO.out _ w4 _).mono ?_) | (with_reducible refine (HO.out _ w5 _).mono ?_)); rintro e wn ⟨rfl, hbn⟩; have HB := Lib.hid (HB.out.trans (hbn.mono HB.out.size)); have HR := Lib.hid ((hbn.block _ (block_lt HR.out)).trans HR.out); have hc := fun j => cell_of_row _ w.heap.size j _ _ _ HR.out; clear hbn) | (go_at_call 200; (first | (with_reducible refine (HN1.out _).mono ?_) | (with_reducible refine (HN2.out _).mono ?_)); rintro e w' ⟨rfl, rfl⟩) | (go_at_call 188; refine (HLO.out _).mono ?_; rintro e wn ⟨rfl, hbn⟩; have HB := Lib.hid (HB.out.trans (hbn.mono HB.out.size)); have HR := Lib.hid ((hbn.block _ (block_lt HR.out)).trans HR.out); have hc := fun j => cell_of_row _ w.heap.size j _ _ _ HR.out; clear hbn) | (go_at_call 201; refine (HD.out _).mono ?_; rintro e w' ⟨rfl, rfl⟩))
    all_goals
      go_ret
      refine ⟨ret_bool ?_, HB.out⟩
      rw [HFIN.out, Bool.eq_iff_iff]
      simp_all
      try omega

end Go.Proofs.YtbmphlpmipkpcaaGreat
end
