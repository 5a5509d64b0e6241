/- A mail's bytes, whatever its kind; a letter's bytes, as plain words. Plain words: the letter of bytes. -/
import Derived.Test.YtellhmbebimenaaDoorLa23
import Derived.Test.YtellhmbebimenaaDoorLa24
import Derived.Test.YtellhmbebimenaaDoorLa25

section
set_option linter.unusedVariables false
set_option linter.unusedSimpArgs false
namespace Go.Proofs.YtellhmbebimenaaDoor
open Go.RowKit

/-- the bytes of a mail that may be -/
def encMh (m : Ml) : List UInt8 := (Wire.be m.k.toNat 1 ++ Wire.be m.tk.toNat 8) ++ Wire.be m.c.toNat 1
def encM (m : Ml) : List UInt8 :=
  if m.k = 3 then encMh m ++ Wire.be m.co.toNat 1
  else if m.k = 2 then (((encMh m ++ Wire.be m.d.toNat 4) ++ Wire.be m.fl.toNat 2) ++ Wire.be m.dy.toNat 4) ++ Wire.be m.va.toNat 8
  else encMh m ++ Wire.be m.d.toNat 4
theorem encM_len (m : Ml) : (encM m).length ≤ 28 := by
  unfold encM encMh
  repeat' split
  all_goals simp only [List.length_append, Wire.be_length]; omega
theorem encM_len11 (m : Ml) : 11 ≤ (encM m).length := by
  unfold encM encMh
  repeat' split
  all_goals simp only [List.length_append, Wire.be_length]; omega
theorem inB_iff {lo hi v : Int} : inB lo hi v = true ↔ lo ≤ v ∧ v ≤ hi := by unfold inB; simp
structure MlB (m : Ml) : Prop where
  k : 1 ≤ m.k ∧ m.k ≤ 5
  num : Tkt.numB m.tk = true
  c : 1 ≤ m.c ∧ m.c ≤ 4
  co : m.k = 3 → 1 ≤ m.co ∧ m.co ≤ 17
  d : ¬ m.k = 3 → 0 ≤ m.d ∧ m.d ≤ 1000000
  w : m.k = 2 → (1 ≤ m.fl ∧ m.fl ≤ 9999) ∧ (0 ≤ m.dy ∧ m.dy ≤ 1000000) ∧ (0 ≤ m.va ∧ m.va ≤ 1000000000000) ∧ m.st = 1 ∧ m.ho = 0 ∧ m.nx = 0
  z2 : ¬ m.k = 2 → m.fl = 0 ∧ m.dy = 0 ∧ m.va = 0 ∧ m.st = 0 ∧ m.ho = 0 ∧ m.nx = 0
  z3 : m.k = 3 → m.d = 0
  zc : ¬ m.k = 3 → m.co = 0
theorem ml_facts {m : Ml} (h : m.may = true) : MlB m := by
  unfold Ml.may Ltr.mailB at h
  simp only [Bool.and_eq_true] at h
  obtain ⟨⟨⟨hk, hn⟩, hc⟩, h⟩ := h
  rw [inB_iff] at hk hc
  by_cases h3 : m.k = 3
  · rw [if_pos h3] at h
    unfold Ltr.czB at h
    simp only [Bool.and_eq_true, beq_iff_eq] at h
    rw [inB_iff] at h
    exact ⟨hk, hn, hc, fun _ => h.1, fun g => absurd h3 g, fun g => absurd g (by omega), fun _ => h.2.2, fun _ => h.2.1, fun g => absurd h3 g⟩
  · rw [if_neg h3] at h
    by_cases h2 : m.k = 2
    · rw [if_pos h2] at h
      unfold flyB at h
      simp only [Bool.and_eq_true, beq_iff_eq] at h
      simp only [inB_iff] at h
      exact ⟨hk, hn, hc, fun g => absurd g h3, fun _ => h.1, fun _ => ⟨h.2.2.1.1.1, h.2.2.1.1.2, h.2.2.1.2, h.2.2.2.1, h.2.2.2.2.1, h.2.2.2.2.2⟩, fun g => absurd h2 g, fun g => absurd g h3, fun _ => h.2.1⟩
    · rw [if_neg h2] at h
      unfold Ltr.czB at h
      simp only [Bool.and_eq_true, beq_iff_eq] at h
      rw [inB_iff] at h
      exact ⟨hk, hn, hc, fun g => absurd g h3, fun _ => h.1, fun g => absurd g h2, fun _ => h.2.2, fun g => absurd g h3, fun _ => h.2.1⟩
theorem mailBytes_yes (m : Ml) (ht : U64 m.tk) (hva : I64 m.va) (hm : m.may = true) (w : World) :
    Calls Tryd.prog 44 #[.agg m.arr] w fun e w' => ∃ v, e = .returned (.tuple #[v, .int .i64 0]) ∧ w'.ownsRow w.heap.size 5 1 v (encM m).length (bytesV (encM m)) ∧ Below w.heap.size w w' := by
  have F := ml_facts hm
  obtain ⟨k, tk, c, d, co, fl, dy, va, st, ho, nx⟩ := m
  obtain ⟨hk, hn, hc, hco, hd, hw, hz2, hz3, hzc⟩ := F
  simp only at ht hva hk hc hco hd hw
  obtain ⟨ht0, ht1⟩ := ht
  obtain ⟨K, rfl⟩ := Int.eq_ofNat_of_zero_le (show 0 ≤ k by omega)
  obtain ⟨T, rfl⟩ := Int.eq_ofNat_of_zero_le ht0
  obtain ⟨C, rfl⟩ := Int.eq_ofNat_of_zero_le (show 0 ≤ c by omega)
  unfold Ml.may at hm
  simp only at hm
  by_cases h3 : (K : Int) = 3
  · obtain rfl : K = 3 := by omega
    have hco := hco h3
    obtain ⟨CO, rfl⟩ := Int.eq_ofNat_of_zero_le (show 0 ≤ co by omega)
    have h := mailBytesD T C CO d fl dy va st ho nx (by omega) (by omega) (by omega) ⟨ht0, ht1⟩ hva hm w
    unfold encM encMh Ml.arr
    simp only [Int.toNat_natCast]
    rw [if_pos h3]
    simp only [List.nil_append] at h
    exact h
  · by_cases h2 : (K : Int) = 2
    · obtain rfl : K = 2 := by omega
      have hd := hd h3
      obtain ⟨⟨f0, f1⟩, ⟨d0, d1⟩, ⟨v0, v1⟩, -⟩ := hw h2
      obtain ⟨D, rfl⟩ := Int.eq_ofNat_of_zero_le hd.1
      obtain ⟨FL, rfl⟩ := Int.eq_ofNat_of_zero_le (show 0 ≤ fl by omega)
      obtain ⟨DY, rfl⟩ := Int.eq_ofNat_of_zero_le d0
      obtain ⟨VA, rfl⟩ := Int.eq_ofNat_of_zero_le v0
      have h := mailBytesG T C D FL DY VA co st ho nx (by omega) (by omega) (by omega) (by omega) (by omega) (by omega) ⟨ht0, ht1⟩ hva hm w
      unfold encM encMh Ml.arr
      simp only [Int.toNat_natCast]
      rw [if_neg h3, if_pos h2]
      simp only [List.nil_append] at h
      exact h
    · have hd := hd h3
      obtain ⟨D, rfl⟩ := Int.eq_ofNat_of_zero_le hd.1
      have h := mailBytesO K T C D co fl dy va st ho nx (by omega) h3 h2 (by omega) (by omega) (by omega) ⟨ht0, ht1⟩ hva hm w
      unfold encM encMh Ml.arr
      simp only [Int.toNat_natCast]
      rw [if_neg h3, if_neg h2]
      simp only [List.nil_append] at h
      exact h
/-- the mail of a letter -/
def Lt.ml (x : Lt) : Ml := ⟨x.k, x.tk, x.c, x.d, x.co, x.fl, x.dy, x.va, x.st, x.ho, x.nx⟩
def encLh (x : Lt) : List UInt8 := ((Wire.be x.f.toNat 2 ++ Wire.be x.t.toNat 2) ++ Wire.be x.n.toNat 8) ++ Wire.be x.a.toNat 8
/-- the bytes of a letter that may be -/
def encLt (x : Lt) : List UInt8 := if x.n = 0 then encLh x else encLh x ++ encM x.ml
structure LtB (x : Lt) : Prop where
  f : 100 ≤ x.f ∧ x.f ≤ 999
  t : 100 ≤ x.t ∧ x.t ≤ 999
  ne : ¬ x.f = x.t
  n : x.n ≤ 4611686018427387904
  a : x.a ≤ 4611686018427387904
  z : x.n = 0 → x.ml = zMl
  m : ¬ x.n = 0 → x.ml.may = true
theorem lt_facts {x : Lt} (h : x.may = true) : LtB x := by
  unfold Lt.may Ltr.mayB at h
  simp only [Bool.and_eq_true, Bool.not_eq_true', decide_eq_true_eq, decide_eq_false_iff_not] at h
  obtain ⟨⟨⟨⟨⟨h1, h2⟩, h3⟩, h4⟩, h5⟩, h6⟩ := h
  rw [Num.mayC_iff] at h1 h2
  refine ⟨h1, h2, h3, h4, h5, fun h0 => ?_, fun h0 => ?_⟩
  · rw [if_pos h0] at h6
    unfold Ltr.eqM at h6
    simp only [Bool.and_eq_true, beq_iff_eq] at h6
    obtain ⟨e1, e2, e3, e4, e5, e6, e7, e8, e9, e10, e11⟩ := h6
    unfold Lt.ml zMl
    rw [e1, e2, e3, e4, e5, e6, e7, e8, e9, e10, e11]
  · rw [if_neg h0] at h6
    exact h6
/-- a part of a row -/
theorem row_loO {w : World} {g : Nat} {cs : List Value} {e : TypeId} (n o : Nat) (h : w.heap[g]? = some (.cells cs.toArray e (0, 0))) {ds : List Value} (hd : (cs.drop o).take n = ds) (hn : ds.length = n) : loL n w g o = ds ∧ okL n w g o :=
  loL_of (fun j v hv => by
    rw [← hd] at hv
    have hj : j < n := by have := (List.getElem?_eq_some_iff.1 hv).1; rw [List.length_take] at this; omega
    rw [List.getElem?_take, if_pos hj, List.getElem?_drop] at hv
    exact (cell_of_row _ _ (o + j) _ _ _ h).trans (by rw [List.getElem?_toArray]; exact hv)) hn
end Go.Proofs.YtellhmbebimenaaDoor
end

section
set_option linter.unusedVariables false
namespace Go.Proofs.YtellhmbebimenaaDoor
open Go.RowKit

def lS1 (b : List UInt8) : Option (List UInt8) := rNumS (some (b.take 20)) 2
def lS2 (b : List UInt8) : Option (List UInt8) := rNumS (lS1 b) 2
def lS3 (b : List UInt8) : Option (List UInt8) := rNumS (lS2 b) 8
def lS4 (b : List UInt8) : Option (List UInt8) := rNumS (lS3 b) 8
def lNum (b : List UInt8) : Nat := rNumV (lS2 b) 8
def lMail (b : List UInt8) : Ml := if lNum b = 0 then zMl else mOf (b.drop 20)
/-- what lies in bytes, read as a letter -/
def lGet (b : List UInt8) : Lt := ⟨rNumV (some (b.take 20)) 2, rNumV (lS1 b) 2, lNum b, rNumV (lS3 b) 8, (lMail b).k, (lMail b).tk, (lMail b).c, (lMail b).d, (lMail b).co, (lMail b).fl, (lMail b).dy, (lMail b).va, (lMail b).st, (lMail b).ho, (lMail b).nx⟩
def okL20 (b : List UInt8) : Bool := decide (lS4 b = some []) && (if lNum b = 0 then decide (b.drop 20 = []) else okM (b.drop 20)) && (lGet b).may
def zLt : Lt := ⟨0, 0, 0, 0, 0, 0, 0, 0, 0, 0, 0, 0, 0, 0, 0⟩
def lOf (b : List UInt8) : Lt := if okL20 b = true then lGet b else zLt
def Lt.arr (x : Lt) : Array Value := #[.int .i64 x.f, .int .i64 x.t, .int .u64 x.n, .int .u64 x.a, .int .i64 x.k, .int .u64 x.tk, .int .i64 x.c, .int .i64 x.d, .int .i64 x.co, .int .i64 x.fl, .int .i64 x.dy, .int .i64 x.va, .int .i64 x.st, .int .i64 x.ho, .int .u64 x.nx]
end Go.Proofs.YtellhmbebimenaaDoor
end
