/- Plain words: the mail of bytes. A mail's bytes, whatever its kind; a letter's bytes, as plain words. Plain words: the letter of bytes. Plain words: a letter's bytes tell it. -/
import Derived.Test.YtbmphlpmipkpcaaGreatRma4
import Derived.Test.YtbmphlpmipkpcaaGreatRma26
import Derived.Test.YtbmphlpmipkpcaaGreatRma38
import Derived.Test.YtbmphlpmipkpcaaGreatRma37

section
set_option linter.unusedVariables false
namespace Go.Proofs.YtbmphlpmipkpcaaGreat
open Go.RowKit

/-- a mail -/
structure Ml where
  k : Int
  tk : Int
  c : Int
  d : Int
  co : Int
  fl : Int
  dy : Int
  va : Int
  st : Int
  ho : Int
  nx : Int
/-- which mails may be -/
def Ml.may (m : Ml) : Bool := Ltr.mailB m.k m.tk m.c m.d m.co m.fl m.dy m.va m.st m.ho m.nx
def Ml.arr (m : Ml) : Array Value := #[.int .i64 m.k, .int .u64 m.tk, .int .i64 m.c, .int .i64 m.d, .int .i64 m.co, .int .i64 m.fl, .int .i64 m.dy, .int .i64 m.va, .int .i64 m.st, .int .i64 m.ho, .int .u64 m.nx]
def zMl : Ml := ⟨0, 0, 0, 0, 0, 0, 0, 0, 0, 0, 0⟩
/-- what lies in bytes, read as a mail -/
def mGet (b : List UInt8) : Ml :=
  if rNumV (some b) 1 = 3 then ⟨3, (rNumV (rNumS (some b) 1) 8 : Int), (rNumV (rNumS (rNumS (some b) 1) 8) 1 : Int), 0, (rNumV (rNumS (rNumS (rNumS (some b) 1) 8) 1) 1 : Int), 0, 0, 0, 0, 0, 0⟩
  else if rNumV (some b) 1 = 2 then ⟨2, (rNumV (rNumS (some b) 1) 8 : Int), (rNumV (rNumS (rNumS (some b) 1) 8) 1 : Int), (rNumV (rNumS (rNumS (rNumS (some b) 1) 8) 1) 4 : Int), 0, (rNumV (rNumS (rNumS (rNumS (rNumS (some b) 1) 8) 1) 4) 2 : Int), (rNumV (rNumS (rNumS (rNumS (rNumS (rNumS (some b) 1) 8) 1) 4) 2) 4 : Int), wrap64 (rNumV (rNumS (rNumS (rNumS (rNumS (rNumS (rNumS (some b) 1) 8) 1) 4) 2) 4) 8 : Int), 1, 0, 0⟩
  else ⟨rNumV (some b) 1, (rNumV (rNumS (some b) 1) 8 : Int), (rNumV (rNumS (rNumS (some b) 1) 8) 1 : Int), (rNumV (rNumS (rNumS (rNumS (some b) 1) 8) 1) 4 : Int), 0, 0, 0, 0, 0, 0, 0⟩
def mEnd (b : List UInt8) : Option (List UInt8) :=
  if rNumV (some b) 1 = 3 then rNumS (rNumS (rNumS (rNumS (some b) 1) 8) 1) 1 else if rNumV (some b) 1 = 2 then (rNumS (rNumS (rNumS (rNumS (rNumS (rNumS (rNumS (some b) 1) 8) 1) 4) 2) 4) 8) else (rNumS (rNumS (rNumS (rNumS (some b) 1) 8) 1) 4)
def okM (b : List UInt8) : Bool := decide (mEnd b = some []) && (mGet b).may
/-- the mail of bytes -/
def mOf (b : List UInt8) : Ml := if okM b = true then mGet b else zMl
end Go.Proofs.YtbmphlpmipkpcaaGreat
end

section
set_option linter.unusedVariables false
set_option linter.unusedSimpArgs false
namespace Go.Proofs.YtbmphlpmipkpcaaGreat
open Go.RowKit

/-- the bytes of a mail that may be -/
def encMh (m : Ml) : List UInt8 := (Wire.be m.k.toNat 1 ++ Wire.be m.tk.toNat 8) ++ Wire.be m.c.toNat 1
def encM (m : Ml) : List UInt8 :=
  if m.k = 3 then encMh m ++ Wire.be m.co.toNat 1
  else if m.k = 2 then (((encMh m ++ Wire.be m.d.toNat 4) ++ Wire.be m.fl.toNat 2) ++ Wire.be m.dy.toNat 4) ++ Wire.be m.va.toNat 8
  else encMh m ++ Wire.be m.d.toNat 4
theorem encM_len (m : Ml) : (encM m).length ≤ 28 := by
  unfold encM encMh
  repeat' split
  all_goals simp only [List.length_append, Wire.be_length]; omega
theorem encM_len11 (m : Ml) : 11 ≤ (encM m).length := by
  unfold encM encMh
  repeat' split
  all_goals simp only [List.length_append, Wire.be_length]; omega
theorem inB_iff {lo hi v : Int} : inB lo hi v = true ↔ lo ≤ v ∧ v ≤ hi := by unfold inB; simp
structure MlB (m : Ml) : Prop where
  k : 1 ≤ m.k ∧ m.k ≤ 5
  num : Tkt.numB m.tk = true
  c : 1 ≤ m.c ∧ m.c ≤ 4
  co : m.k = 3 → 1 ≤ m.co ∧ m.co ≤ 17
  d : ¬ m.k = 3 → 0 ≤ m.d ∧ m.d ≤ 1000000
  w : m.k = 2 → (1 ≤ m.fl ∧ m.fl ≤ 9999) ∧ (0 ≤ m.dy ∧ m.dy ≤ 1000000) ∧ (0 ≤ m.va ∧ m.va ≤ 1000000000000) ∧ m.st = 1 ∧ m.ho = 0 ∧ m.nx = 0
  z2 : ¬ m.k = 2 → m.fl = 0 ∧ m.dy = 0 ∧ m.va = 0 ∧ m.st = 0 ∧ m.ho = 0 ∧ m.nx = 0
  z3 : m.k = 3 → m.d = 0
  zc : ¬ m.k = 3 → m.co = 0
theorem ml_facts {m : Ml} (h : m.may = true) : MlB m := by
  unfold Ml.may Ltr.mailB at h
  simp only [Bool.and_eq_true] at h
  obtain ⟨⟨⟨hk, hn⟩, hc⟩, h⟩ := h
  rw [inB_iff] at hk hc
  by_cases h3 : m.k = 3
  · rw [if_pos h3] at h
    unfold Ltr.czB at h
    simp only [Bool.and_eq_true, beq_iff_eq] at h
    rw [inB_iff] at h
    exact ⟨hk, hn, hc, fun _ => h.1, fun g => absurd h3 g, fun g => absurd g (by omega), fun _ => h.2.2, fun _ => h.2.1, fun g => absurd h3 g⟩
  · rw [if_neg h3] at h
    by_cases h2 : m.k = 2
    · rw [if_pos h2] at h
      unfold flyB at h
      simp only [Bool.and_eq_true, beq_iff_eq] at h
      simp only [inB_iff] at h
      exact ⟨hk, hn, hc, fun g => absurd g h3, fun _ => h.1, fun _ => ⟨h.2.2.1.1.1, h.2.2.1.1.2, h.2.2.1.2, h.2.2.2.1, h.2.2.2.2.1, h.2.2.2.2.2⟩, fun g => absurd h2 g, fun g => absurd g h3, fun _ => h.2.1⟩
    · rw [if_neg h2] at h
      unfold Ltr.czB at h
      simp only [Bool.and_eq_true, beq_iff_eq] at h
      rw [inB_iff] at h
      exact ⟨hk, hn, hc, fun g => absurd g h3, fun _ => h.1, fun g => absurd g h2, fun _ => h.2.2, fun g => absurd g h3, fun _ => h.2.1⟩
theorem mailBytes_yes (m : Ml) (ht : U64 m.tk) (hva : I64 m.va) (hm : m.may = true) (w : World) :
    Calls Tryz.prog 36 #[.agg m.arr] w fun e w' => ∃ v, e = .returned (.tuple #[v, .int .i64 0]) ∧ w'.ownsRow w.heap.size 5 1 v (encM m).length (bytesV (encM m)) ∧ Below w.heap.size w w' := by
  have F := ml_facts hm
  obtain ⟨k, tk, c, d, co, fl, dy, va, st, ho, nx⟩ := m
  obtain ⟨hk, hn, hc, hco, hd, hw, hz2, hz3, hzc⟩ := F
  simp only at ht hva hk hc hco hd hw
  obtain ⟨ht0, ht1⟩ := ht
  obtain ⟨K, rfl⟩ := Int.eq_ofNat_of_zero_le (show 0 ≤ k by omega)
  obtain ⟨T, rfl⟩ := Int.eq_ofNat_of_zero_le ht0
  obtain ⟨C, rfl⟩ := Int.eq_ofNat_of_zero_le (show 0 ≤ c by omega)
  unfold Ml.may at hm
  simp only at hm
  by_cases h3 : (K : Int) = 3
  · obtain rfl : K = 3 := by omega
    have hco := hco h3
    obtain ⟨CO, rfl⟩ := Int.eq_ofNat_of_zero_le (show 0 ≤ co by omega)
    have h := mailBytesD T C CO d fl dy va st ho nx (by omega) (by omega) (by omega) ⟨ht0, ht1⟩ hva hm w
    unfold encM encMh Ml.arr
    simp only [Int.toNat_natCast]
    rw [if_pos h3]
    simp only [List.nil_append] at h
    exact h
  · by_cases h2 : (K : Int) = 2
    · obtain rfl : K = 2 := by omega
      have hd := hd h3
      obtain ⟨⟨f0, f1⟩, ⟨d0, d1⟩, ⟨v0, v1⟩, -⟩ := hw h2
      obtain ⟨D, rfl⟩ := Int.eq_ofNat_of_zero_le hd.1
      obtain ⟨FL, rfl⟩ := Int.eq_ofNat_of_zero_le (show 0 ≤ fl by omega)
      obtain ⟨DY, rfl⟩ := Int.eq_ofNat_of_zero_le d0
      obtain ⟨VA, rfl⟩ := Int.eq_ofNat_of_zero_le v0
      have h := mailBytesG T C D FL DY VA co st ho nx (by omega) (by omega) (by omega) (by omega) (by omega) (by omega) ⟨ht0, ht1⟩ hva hm w
      unfold encM encMh Ml.arr
      simp only [Int.toNat_natCast]
      rw [if_neg h3, if_pos h2]
      simp only [List.nil_append] at h
      exact h
    · have hd := hd h3
      obtain ⟨D, rfl⟩ := Int.eq_ofNat_of_zero_le hd.1
      have h := mailBytesO K T C D co fl dy va st ho nx (by omega) h3 h2 (by omega) (by omega) (by omega) ⟨ht0, ht1⟩ hva hm w
      unfold encM encMh Ml.arr
      simp only [Int.toNat_natCast]
      rw [if_neg h3, if_neg h2]
      simp only [List.nil_append] at h
      exact h
/-- the mail of a letter -/
def Lt.ml (x : Lt) : Ml := ⟨x.k, x.tk, x.c, x.d, x.co, x.fl, x.dy, x.va, x.st, x.ho, x.nx⟩
def encLh (x : Lt) : List UInt8 := ((Wire.be x.f.toNat 2 ++ Wire.be x.t.toNat 2) ++ Wire.be x.n.toNat 8) ++ Wire.be x.a.toNat 8
/-- the bytes of a letter that may be -/
def encLt (x : Lt) : List UInt8 := if x.n = 0 then encLh x else encLh x ++ encM x.ml
structure LtB (x : Lt) : Prop where
  f : 100 ≤ x.f ∧ x.f ≤ 999
  t : 100 ≤ x.t ∧ x.t ≤ 999
  ne : ¬ x.f = x.t
  n : x.n ≤ 4611686018427387904
  a : x.a ≤ 4611686018427387904
  z : x.n = 0 → x.ml = zMl
  m : ¬ x.n = 0 → x.ml.may = true
theorem lt_facts {x : Lt} (h : x.may = true) : LtB x := by
  unfold Lt.may Ltr.mayB at h
  simp only [Bool.and_eq_true, Bool.not_eq_true', decide_eq_true_eq, decide_eq_false_iff_not] at h
  obtain ⟨⟨⟨⟨⟨h1, h2⟩, h3⟩, h4⟩, h5⟩, h6⟩ := h
  rw [Num.mayC_iff] at h1 h2
  refine ⟨h1, h2, h3, h4, h5, fun h0 => ?_, fun h0 => ?_⟩
  · rw [if_pos h0] at h6
    unfold Ltr.eqM at h6
    simp only [Bool.and_eq_true, beq_iff_eq] at h6
    obtain ⟨e1, e2, e3, e4, e5, e6, e7, e8, e9, e10, e11⟩ := h6
    unfold Lt.ml zMl
    rw [e1, e2, e3, e4, e5, e6, e7, e8, e9, e10, e11]
  · rw [if_neg h0] at h6
    exact h6
/-- a part of a row -/
theorem row_loO {w : World} {g : Nat} {cs : List Value} {e : TypeId} (n o : Nat) (h : w.heap[g]? = some (.cells cs.toArray e (0, 0))) {ds : List Value} (hd : (cs.drop o).take n = ds) (hn : ds.length = n) : loL n w g o = ds ∧ okL n w g o :=
  loL_of (fun j v hv => by
    rw [← hd] at hv
    have hj : j < n := by have := (List.getElem?_eq_some_iff.1 hv).1; rw [List.length_take] at this; omega
    rw [List.getElem?_take, if_pos hj, List.getElem?_drop] at hv
    exact (cell_of_row _ _ (o + j) _ _ _ h).trans (by rw [List.getElem?_toArray]; exact hv)) hn
end Go.Proofs.YtbmphlpmipkpcaaGreat
end

section
set_option linter.unusedVariables false
namespace Go.Proofs.YtbmphlpmipkpcaaGreat
open Go.RowKit

def lS1 (b : List UInt8) : Option (List UInt8) := rNumS (some (b.take 20)) 2
def lS2 (b : List UInt8) : Option (List UInt8) := rNumS (lS1 b) 2
def lS3 (b : List UInt8) : Option (List UInt8) := rNumS (lS2 b) 8
def lS4 (b : List UInt8) : Option (List UInt8) := rNumS (lS3 b) 8
def lNum (b : List UInt8) : Nat := rNumV (lS2 b) 8
def lMail (b : List UInt8) : Ml := if lNum b = 0 then zMl else mOf (b.drop 20)
/-- what lies in bytes, read as a letter -/
def lGet (b : List UInt8) : Lt := ⟨rNumV (some (b.take 20)) 2, rNumV (lS1 b) 2, lNum b, rNumV (lS3 b) 8, (lMail b).k, (lMail b).tk, (lMail b).c, (lMail b).d, (lMail b).co, (lMail b).fl, (lMail b).dy, (lMail b).va, (lMail b).st, (lMail b).ho, (lMail b).nx⟩
def okL20 (b : List UInt8) : Bool := decide (lS4 b = some []) && (if lNum b = 0 then decide (b.drop 20 = []) else okM (b.drop 20)) && (lGet b).may
def zLt : Lt := ⟨0, 0, 0, 0, 0, 0, 0, 0, 0, 0, 0, 0, 0, 0, 0⟩
def lOf (b : List UInt8) : Lt := if okL20 b = true then lGet b else zLt
def Lt.arr (x : Lt) : Array Value := #[.int .i64 x.f, .int .i64 x.t, .int .u64 x.n, .int .u64 x.a, .int .i64 x.k, .int .u64 x.tk, .int .i64 x.c, .int .i64 x.d, .int .i64 x.co, .int .i64 x.fl, .int .i64 x.dy, .int .i64 x.va, .int .i64 x.st, .int .i64 x.ho, .int .u64 x.nx]
end Go.Proofs.YtbmphlpmipkpcaaGreat
end

section
set_option linter.unusedVariables false
namespace Go.Proofs.YtbmphlpmipkpcaaGreat
open Go.RowKit

theorem beV_be (x k : Nat) (h : x < 256 ^ k) : beVal (Wire.be x k) = x := by
  have e : ∀ l : List UInt8, beVal l = Wire.ofBe l := fun l => by
    unfold beVal Wire.ofBe
    have : (fun (n : Nat) (b : UInt8) => n * 256 + b.toNat) = Wire.bstep := by funext a c; unfold Wire.bstep; omega
    rw [this]
  rw [e, Wire.ofBe_be, Nat.mod_eq_of_lt h]
theorem numS_app (p t : List UInt8) (k : Nat) (hk : k = 1 ∨ k = 2 ∨ k = 4 ∨ k = 8) (hp : p.length = k) : rNumS (some (p ++ t)) (k : Int) = some t ∧ rNumV (some (p ++ t)) (k : Int) = beVal p := by
  have hs : rSize (k : Int) = true := by rcases hk with rfl | rfl | rfl | rfl <;> rfl
  have hc : (0 : Int) ≤ (k : Int) ∧ (k : Int) ≤ ((p ++ t).length : Nat) := by simp; omega
  unfold rNumS rNumV
  rw [if_pos hs, if_pos hs]
  refine ⟨?_, ?_⟩
  · unfold rRest; simp only; rw [if_pos hc, Int.toNat_natCast, ← hp, List.drop_left]
  · unfold rBy rTake; simp only; rw [if_pos hc, Int.toNat_natCast, ← hp, List.take_left]; rfl
theorem nS1 (x : Nat) (t : List UInt8) : rNumS (some (Wire.be x 1 ++ t)) 1 = some t := (numS_app _ t 1 (by decide) (Wire.be_length x 1)).1
theorem nS2 (x : Nat) (t : List UInt8) : rNumS (some (Wire.be x 2 ++ t)) 2 = some t := (numS_app _ t 2 (by decide) (Wire.be_length x 2)).1
theorem nS4 (x : Nat) (t : List UInt8) : rNumS (some (Wire.be x 4 ++ t)) 4 = some t := (numS_app _ t 4 (by decide) (Wire.be_length x 4)).1
theorem nS8 (x : Nat) (t : List UInt8) : rNumS (some (Wire.be x 8 ++ t)) 8 = some t := (numS_app _ t 8 (by decide) (Wire.be_length x 8)).1
theorem nV1 (x : Nat) (t : List UInt8) (h : x < 256) : rNumV (some (Wire.be x 1 ++ t)) 1 = x := (numS_app _ t 1 (by decide) (Wire.be_length x 1)).2.trans (beV_be x 1 h)
theorem nV2 (x : Nat) (t : List UInt8) (h : x < 65536) : rNumV (some (Wire.be x 2 ++ t)) 2 = x := (numS_app _ t 2 (by decide) (Wire.be_length x 2)).2.trans (beV_be x 2 h)
theorem nV4 (x : Nat) (t : List UInt8) (h : x < 4294967296) : rNumV (some (Wire.be x 4 ++ t)) 4 = x := (numS_app _ t 4 (by decide) (Wire.be_length x 4)).2.trans (beV_be x 4 h)
theorem nV8 (x : Nat) (t : List UInt8) (h : x < 18446744073709551616) : rNumV (some (Wire.be x 8 ++ t)) 8 = x := (numS_app _ t 8 (by decide) (Wire.be_length x 8)).2.trans (beV_be x 8 h)
theorem mGet_enc {m : Ml} (ht : U64 m.tk) (hm : m.may = true) : mGet (encM m) = m ∧ mEnd (encM m) = some [] := by
  obtain ⟨hk, hn, hc, hco, hd, hw, hz2, hz3, hzc⟩ := ml_facts hm
  clear hm hn
  obtain ⟨k, tk, c, d, co, fl, dy, va, st, ho, nx⟩ := m
  simp only at ht hk hc hco hd hw hz2 hz3 hzc
  obtain ⟨t0, t1⟩ := ht
  obtain ⟨K, rfl⟩ := Int.eq_ofNat_of_zero_le (show 0 ≤ k by omega)
  obtain ⟨T, rfl⟩ := Int.eq_ofNat_of_zero_le t0
  obtain ⟨C, rfl⟩ := Int.eq_ofNat_of_zero_le (show 0 ≤ c by omega)
  have hK : K < 256 := by omega
  have hT : T < 18446744073709551616 := by omega
  have hC : C < 256 := by omega
  unfold encM encMh mGet mEnd
  simp only [Int.toNat_natCast, List.append_assoc]
  by_cases h3 : (K : Int) = 3
  · obtain rfl : K = 3 := by omega
    obtain ⟨O, rfl⟩ := Int.eq_ofNat_of_zero_le (show 0 ≤ co by have := hco h3; omega)
    have hO : O < 256 := by have := hco h3; omega
    have e0 := hz3 h3
    obtain ⟨z1, z2, z3, z4, z5, z6⟩ := hz2 (by omega)
    subst e0 z1 z2 z3 z4 z5 z6
    rw [if_pos h3, Int.toNat_natCast, ← List.append_nil (Wire.be O 1)]
    simp only [nV1 _ _ hK, nV8 _ _ hT, nV1 _ _ hC, nV1 _ _ hO, nS1, nS8]
    exact ⟨rfl, rfl⟩
  · rw [if_neg h3]
    have h3' : ¬ K = 3 := by omega
    obtain ⟨D, rfl⟩ := Int.eq_ofNat_of_zero_le (show 0 ≤ d by have := hd h3; omega)
    have hD : D < 4294967296 := by have := hd h3; omega
    have e0 := hzc h3
    subst e0
    by_cases h2 : (K : Int) = 2
    · obtain rfl : K = 2 := by omega
      obtain ⟨w1, w2, w3, w4, w5, w6⟩ := hw h2
      obtain ⟨L, rfl⟩ := Int.eq_ofNat_of_zero_le (show 0 ≤ fl by omega)
      obtain ⟨Y, rfl⟩ := Int.eq_ofNat_of_zero_le (show 0 ≤ dy by omega)
      obtain ⟨V, rfl⟩ := Int.eq_ofNat_of_zero_le (show 0 ≤ va by omega)
      have hL : L < 65536 := by omega
      have hY : Y < 4294967296 := by omega
      have hV : V < 18446744073709551616 := by omega
      subst w4 w5 w6
      rw [if_pos h2]
      simp only [Int.toNat_natCast]
      rw [← List.append_nil (Wire.be V 8)]
      simp only [nV1 _ _ hK, nV8 _ _ hT, nV1 _ _ hC, nV4 _ _ hD, nV2 _ _ hL, nV4 _ _ hY, nV8 _ _ hV, nS1, nS8, nS2, nS4]
      refine ⟨?_, rfl⟩
      have hwr : wrap64 (V : Int) = (V : Int) := by unfold wrap64; omega
      simp [hwr]
    · obtain ⟨z1, z2, z3, z4, z5, z6⟩ := hz2 h2
      subst z1 z2 z3 z4 z5 z6
      have h2' : ¬ K = 2 := by omega
      rw [if_neg h2, Int.toNat_natCast, ← List.append_nil (Wire.be D 4)]
      simp only [nV1 _ _ hK, nV8 _ _ hT, nV1 _ _ hC, nV4 _ _ hD, nS1, nS8, nS4, if_neg h3', if_neg h2']
      exact ⟨trivial, trivial⟩
theorem okM_enc {m : Ml} (ht : U64 m.tk) (hm : m.may = true) : okM (encM m) = true ∧ mOf (encM m) = m := by
  obtain ⟨h1, h2⟩ := mGet_enc ht hm
  have h : okM (encM m) = true := by unfold okM; rw [h1, h2, hm]; rfl
  exact ⟨h, by unfold mOf; rw [if_pos h, h1]⟩
theorem lGet_enc {x : Lt} (hw : x.wf) (hm : x.may = true) : okL20 (encLt x) = true ∧ lGet (encLt x) = x := by
  obtain ⟨hf, ht, hne, hn, ha, hz, hml⟩ := lt_facts hm
  obtain ⟨n0, n1⟩ := hw.n
  obtain ⟨a0, a1⟩ := hw.a
  have htk := hw.tk
  have hmm := hm
  obtain ⟨f, t, n, a, k, tk, c, d, co, fl, dy, va, st, ho, nx⟩ := x
  simp only at hf ht hne hn ha hz hml n0 n1 a0 a1 htk
  obtain ⟨F, rfl⟩ := Int.eq_ofNat_of_zero_le (show 0 ≤ f by omega)
  obtain ⟨T, rfl⟩ := Int.eq_ofNat_of_zero_le (show 0 ≤ t by omega)
  obtain ⟨N, rfl⟩ := Int.eq_ofNat_of_zero_le n0
  obtain ⟨A, rfl⟩ := Int.eq_ofNat_of_zero_le a0
  have hF : F < 65536 := by omega
  have hT : T < 65536 := by omega
  have hN : N < 18446744073709551616 := by omega
  have hA : A < 18446744073709551616 := by omega
  generalize hX : (⟨(F : Int), (T : Int), (N : Int), (A : Int), k, tk, c, d, co, fl, dy, va, st, ho, nx⟩ : Lt) = X at *
  have hml0 : X.ml = ⟨k, tk, c, d, co, fl, dy, va, st, ho, nx⟩ := by rw [← hX]; rfl
  have eh : encLh X = Wire.be F 2 ++ (Wire.be T 2 ++ (Wire.be N 8 ++ Wire.be A 8)) := by
    rw [← hX]; unfold encLh; simp only [Int.toNat_natCast, List.append_assoc]
  have hl20 : (encLh X).length = 20 := by rw [eh]; simp only [List.length_append, Wire.be_length]
  have hX2 : X.n = (N : Int) := by rw [← hX]
  have e : ∃ R, encLt X = encLh X ++ R ∧ (N = 0 → R = []) ∧ (¬ N = 0 → R = encM X.ml) := by
    unfold encLt
    rw [hX2]
    by_cases h0 : N = 0
    · rw [if_pos (by omega)]; exact ⟨[], by simp, fun _ => rfl, fun h => absurd h0 h⟩
    · rw [if_neg (by omega)]; exact ⟨_, rfl, fun h => absurd h h0, fun _ => rfl⟩
  obtain ⟨R, hR, hR0, hR1⟩ := e
  have et : (encLt X).take 20 = Wire.be F 2 ++ (Wire.be T 2 ++ (Wire.be N 8 ++ (Wire.be A 8 ++ []))) := by
    rw [hR, ← hl20, List.take_left, eh, List.append_nil]
  have ed : (encLt X).drop 20 = R := by rw [hR, ← hl20, List.drop_left]
  have s1 : lS1 (encLt X) = some (Wire.be T 2 ++ (Wire.be N 8 ++ (Wire.be A 8 ++ []))) := by unfold lS1; rw [et, nS2]
  have s2 : lS2 (encLt X) = some (Wire.be N 8 ++ (Wire.be A 8 ++ [])) := by unfold lS2; rw [s1, nS2]
  have s3 : lS3 (encLt X) = some (Wire.be A 8 ++ []) := by unfold lS3; rw [s2, nS8]
  have s4 : lS4 (encLt X) = some [] := by unfold lS4; rw [s3, nS8]
  have hN1 : lNum (encLt X) = N := by unfold lNum; rw [s2, nV8 _ _ hN]
  have hMail : lMail (encLt X) = X.ml := by
    unfold lMail
    rw [hN1, ed]
    by_cases h0 : N = 0
    · rw [if_pos h0, hz (by rw [h0]; rfl)]
    · rw [if_neg h0, hR1 h0]
      exact (okM_enc (by rw [hml0]; exact htk) (hml (by omega))).2
  have hG : lGet (encLt X) = X := by
    unfold lGet
    rw [hMail, hN1, s1, s3, et, nV2 _ _ hF, nV2 _ _ hT, nV8 _ _ hA, hml0, ← hX]
  refine ⟨?_, hG⟩
  unfold okL20
  rw [s4, hN1, ed, hG, hmm]
  by_cases h0 : N = 0
  · rw [if_pos h0, hR0 h0]; rfl
  · rw [if_neg h0, hR1 h0, (okM_enc (by rw [hml0]; exact htk) (hml (by omega))).1]; rfl
theorem encLt_inj {x y : Lt} (hx : x.wf) (hy : y.wf) (mx : x.may = true) (my : y.may = true) (h : encLt x = encLt y) : x = y := by
  rw [← (lGet_enc hx mx).2, h, (lGet_enc hy my).2]
end Go.Proofs.YtbmphlpmipkpcaaGreat
end
