/- Contracts: the wire reference's Blob and Put; the law's kind, few, put. -/
import Derived.Test.YtfpcpnjegbmdbaaRefA
import Derived.Test.YtfpcpnjegbmdbaaBytes
set_option linter.unusedVariables false
set_option linter.unusedSimpArgs false
namespace Go.Proofs.Ytfpcpnjegbmdbaa
open Go.RowKit

def pBlob (b : List UInt8) : Option (List UInt8) := if b.length ≤ 16777216 then some (Wire.be b.length 4 ++ b) else none
theorem pNum_blob {n : Nat} (h : n ≤ 16777216) : pNum n ((4 : Nat) : Int) = some (Wire.be n 4) := by
  unfold pNum
  rw [if_pos ⟨by decide, by rw [Int.toNat_natCast]; omega⟩]; rfl

set_option maxHeartbeats 400000 in
theorem rBlob_any (v : Value) (b : List UInt8) (hlen : b.length ≤ 1000000000) (w : World) (hv : BS w v b) :
    Calls Try.prog 48 #[v] w fun e w' => ∃ u, e = .returned (.tuple #[u, .bool (pBlob b).isSome]) ∧ w'.ownsRow w.heap.size 5 1 u (pGet (pBlob b)).length (bytesV (pGet (pBlob b))) ∧ Below w.heap.size w w' := by
  have HV := Lib.hid hv
  obtain ⟨p, cap, rfl, g1, g2, -⟩ := hv
  have HP : Hid (pBlob b = if b.length ≤ 16777216 then some (Wire.be b.length 4 ++ b) else none) := Lib.hid rfl
  have HPN := Lib.hid (fun h => @pNum_blob b.length h)
  have HL : Hid ((Wire.be b.length 4).length = 4) := Lib.hid (Wire.be_length _ _)
  generalize hn : b.length = n at *
  have HN := Lib.hid hn; clear hn
  unfold maxLen at g2
  by_cases h : n ≤ 16777216
  · rw [if_pos h] at HP
    have HC := Lib.hid (fun W => rNumber_any n (by omega) ((4 : Nat) : Int) W)
    rw [HPN.out h] at HC
    rw [HP.out]
    generalize Wire.be n 4 = L at *
    go_enter Try.func48, Try.ntmps48
    go_wp2_with fail
    refine (HC.out _).mono ?_
    rintro e w1 ⟨u, rfl, hown, hb1⟩
    have HO := Lib.hid hown
    have HB := Lib.hid hb1
    obtain ⟨q, c, rfl⟩ := own_form hown
    clear hown hb1
    go_wp2_with (at_builtin; refine wpList_append_bytes rfl _ _ rfl w.heap.size _ _ _ rfl HO.out _ b rfl (HV.out.below HB.out) ?c1 HB.out.size ?_)
    case c1 => have := HL.out; have := HN.out; simp only [pGet, Option.getD_some]; omega
    intro v2 w2 hown2 hg2 hn2 hat2
    have HB2 := Lib.hid (HB.out.grown hg2 HB.out.size (fun q hq => (HO.out.lt q hq).1))
    have HO2 : Hid (w2.ownsRow w.heap.size 5 1 v2 (L ++ b).length (bytesV (L ++ b))) := Lib.hid (by rw [List.length_append, bytesV_append]; exact hown2)
    clear hown2 hg2 hn2 hat2
    go_wp2
    go_ret2
    exact ⟨v2, rfl, HO2.out, HB2.out⟩
  · rw [if_neg h] at HP
    rw [HP.out]
    go_enter Try.func48, Try.ntmps48
    go_wp2
    go_ret2
    exact ⟨_, rfl, World.ownsRow_nil _ _ _ _, Below.refl _ _⟩

/-- what is put, by its kind -/
def pPut (k : Int) (N : Nat) (s : Int) (b : List UInt8) : Option (List UInt8) :=
  if k = 1 then pNum N s else if k = 2 then pNum N 8 else if k = 3 then pNum (N % 2) 1 else if k = 4 then some b else if k = 5 ∨ k = 6 then pBlob b else if s < 0 then none else pNum s.toNat 2

set_option maxRecDepth 4000 in
set_option maxHeartbeats 1000000 in
theorem rPut_any (k : Int) (k1 : 1 ≤ k) (k7 : k ≤ 7) (N : Nat) (hN : N < 18446744073709551616) (s : Int) (hs : s ≤ 9223372036854775807) (v : Value) (b : List UInt8) (hlen : b.length ≤ 1000000000) (base : Nat) (w : World) (hv : BK w base v b) :
    Calls Try.prog 13 #[.int .i64 k, .int .u64 (N : Int), .int .i64 s, v] w fun e w' => ∃ u, e = .returned (.tuple #[u, .bool (pPut k N s b).isSome]) ∧ BK w' base u (pGet (pPut k N s b)) ∧ Below w.heap.size w w' := by
  have HV := Lib.hid hv
  have HBL := Lib.hid (rBlob_any v b hlen w hv.1)
  obtain ⟨⟨p, cap, rfl, g1, g2, -⟩, -⟩ := hv
  generalize hn : b.length = n at *
  clear hn
  rcases (by omega : k = 1 ∨ k = 2 ∨ k = 3 ∨ k = 4 ∨ k = 5 ∨ k = 6 ∨ k = 7) with rfl | rfl | rfl | rfl | rfl | rfl | rfl
  · have HC := Lib.hid (rNumber_any N hN s w)
    go_enter Try.func13, Try.ntmps13
    go_wp2_with fail
    refine HC.out.mono ?_
    rintro e w1 ⟨u, rfl, hown, hb1⟩
    have HO := Lib.hid (BK.of_own (base := base) hown)
    obtain ⟨q, c, rfl⟩ := own_form hown
    clear hown
    go_wp2
    go_ret2
    exact ⟨_, rfl, HO.out, hb1⟩
  · have HC := Lib.hid (rNumber_any N hN 8 w)
    go_enter Try.func13, Try.ntmps13
    go_wp2_with fail
    refine HC.out.mono ?_
    rintro e w1 ⟨u, rfl, hown, hb1⟩
    have HO := Lib.hid (BK.of_own (base := base) hown)
    obtain ⟨q, c, rfl⟩ := own_form hown
    clear hown
    go_wp2
    go_ret2
    exact ⟨_, rfl, HO.out, hb1⟩
  · have HC := Lib.hid (rNumber_any (N % 2) (by omega) 1 w)
    have hmod : (N : Int) % 2 = ((N % 2 : Nat) : Int) := by omega
    have HP : pPut 3 N s b = pNum (N % 2) 1 := rfl
    rw [HP]
    clear HP
    generalize N % 2 = N2 at *
    go_enter Try.func13, Try.ntmps13
    go_wp2_with fail
    refine HC.out.mono ?_
    rintro e w1 ⟨u, rfl, hown, hb1⟩
    have HO := Lib.hid (BK.of_own (base := base) hown)
    obtain ⟨q, c, rfl⟩ := own_form hown
    clear hown
    go_wp2
    go_ret2
    exact ⟨_, rfl, HO.out, hb1⟩
  · go_enter Try.func13, Try.ntmps13
    go_wp2
    go_ret2
    exact ⟨_, rfl, HV.out, Below.refl _ _⟩
  · go_enter Try.func13, Try.ntmps13
    go_wp2_with fail
    refine HBL.out.mono ?_
    rintro e w1 ⟨u, rfl, hown, hb1⟩
    have HO := Lib.hid (BK.of_own (base := base) hown)
    obtain ⟨q, c, rfl⟩ := own_form hown
    clear hown
    go_wp2
    go_ret2
    exact ⟨_, rfl, HO.out, hb1⟩
  · go_enter Try.func13, Try.ntmps13
    go_wp2_with fail
    refine HBL.out.mono ?_
    rintro e w1 ⟨u, rfl, hown, hb1⟩
    have HO := Lib.hid (BK.of_own (base := base) hown)
    obtain ⟨q, c, rfl⟩ := own_form hown
    clear hown
    go_wp2
    go_ret2
    exact ⟨_, rfl, HO.out, hb1⟩
  · by_cases h0 : s < 0
    · have HP : Hid (pPut 7 N s b = none) := Lib.hid (by unfold pPut; simp [h0])
      rw [HP.out]
      go_enter Try.func13, Try.ntmps13
      go_wp2
      go_ret2
      exact ⟨_, rfl, BK.nil _ _, Below.refl _ _⟩
    · have HP : Hid (pPut 7 N s b = pNum s.toNat 2) := Lib.hid (by unfold pPut; simp [h0])
      rw [HP.out]
      obtain ⟨S, rfl⟩ := Int.eq_ofNat_of_zero_le (show 0 ≤ s by omega)
      rw [Int.toNat_natCast]
      have HC := Lib.hid (rNumber_any S (by omega) 2 w)
      go_enter Try.func13, Try.ntmps13
      go_wp2_with fail
      refine HC.out.mono ?_
      rintro e w1 ⟨u, rfl, hown, hb1⟩
      have HO := Lib.hid (BK.of_own (base := base) hown)
      obtain ⟨q, c, rfl⟩ := own_form hown
      clear hown
      go_wp2
      go_ret2
      exact ⟨_, rfl, HO.out, hb1⟩

/-- the law's kind -/
def kindOf (n : Int) : Int := (n.tmod 7 + 7).tmod 7 + 1
theorem kindOf_bd (n : Int) : 1 ≤ kindOf n ∧ kindOf n ≤ 7 := by
  unfold kindOf
  have h1 := Int.tmod_lt_of_pos n (show (0 : Int) < 7 by decide)
  have h2 := Int.lt_tmod_of_pos n (show (0 : Int) < 7 by decide)
  rw [Int.tmod_eq_emod_of_nonneg (a := n.tmod 7 + 7) (by omega)]
  omega
set_option maxHeartbeats 400000 in
theorem kind_any (n : Int) (w : World) : Calls Try.prog 14 #[.int .i64 n] w fun e w' => e = .returned (.int .i64 (kindOf n)) ∧ w = w' := by
  have h1 := Int.tmod_lt_of_pos n (show (0 : Int) < 7 by decide)
  have h2 := Int.lt_tmod_of_pos n (show (0 : Int) < 7 by decide)
  have h3 : wrap64 ((wrap64 (n.tmod 7 + 7)).tmod 7 + 1) = kindOf n := by
    have e := Int.tmod_eq_emod_of_nonneg (a := n.tmod 7 + 7) (b := 7) (by omega)
    unfold kindOf
    rw [IntWalk.wrap64_in (n.tmod 7 + 7) (by omega), e, IntWalk.wrap64_in _ (by omega)]
  have H3 := Lib.hid h3
  clear h3 h1 h2
  go_enter Try.func14, Try.ntmps14
  go_wp2
  go_ret
  exact ⟨ret_intW H3.out, rfl⟩

/-! ### lists of puts -/
structure PutR where
  kind : Int
  n : Nat
  size : Int
  v : Value
  b : List UInt8
def PutR.wf (x : PutR) : Prop := (-9223372036854775808 ≤ x.kind ∧ x.kind ≤ 9223372036854775807) ∧ x.n < 18446744073709551616 ∧ (-9223372036854775808 ≤ x.size ∧ x.size ≤ 9223372036854775807)
def PutAt (w : World) (b o : Nat) (x : PutR) : Prop :=
  w.cell? ⟨b, o, none⟩ = some (.int .i64 x.kind) ∧ w.cell? ⟨b, o + 1, none⟩ = some (.int .u64 (x.n : Int)) ∧ w.cell? ⟨b, o + 2, none⟩ = some (.int .i64 x.size) ∧ w.cell? ⟨b, o + 3, none⟩ = some x.v
/-- the value is a slice of the puts l -/
def PutS (w : World) (v : Value) (l : List PutR) : Prop :=
  ∃ (p : Option Addr) (cap : Nat), v = .slice p l.length cap ∧ l.length ≤ cap ∧ cap ≤ maxLen ∧ (∀ x ∈ l, x.wf ∧ BS w x.v x.b) ∧
    (l ≠ [] → ∃ b o, p = some ⟨b, o, none⟩ ∧ b < w.heap.size ∧ ∀ i x, l[i]? = some x → PutAt w b (o + i * 4) x)
theorem PutAt.of_cells {w w' : World} {b o : Nat} {x : PutR} (h : PutAt w b o x) (hk : ∀ j, w'.cell? ⟨b, j, none⟩ = w.cell? ⟨b, j, none⟩) : PutAt w' b o x := by
  unfold PutAt; simp only [hk]; exact h

section
open Go.ChangeShapes Go.WideShapes Go.ChangeAt Go.Deep
variable {H : Type} {enc : TypeId × Value → H} {W : World} {base : Nat} {held : Bool}
theorem putCells : Try.prog.cellsOf 35 = 4 := by kernel_rfl
set_option maxRecDepth 10000 in
theorem open_put {n : Nat} {cs : List Value} {x : DataW H × List MemPlace} (h : DataW.trod enc Try.prog W 0 (fun _ => true) held n 35 cs = some x) :
    ∃ p : PutR, cs = [.int .i64 p.kind, .int .u64 (p.n : Int), .int .i64 p.size, p.v] ∧ p.wf ∧ BS W p.v p.b := by
  obtain ⟨xs, m, _, hx, hl, hxl, hf⟩ := DataW.trod_struct Try.underlying35 h
  rw [putCells] at hl
  match cs, hl with
  | [c0, c1, c2, c3], _ =>
    have g : ∀ i, i < 4 → ∃ y, xs[i]? = some y := fun i hi => ⟨_, List.getElem?_eq_getElem (by simp at hxl; omega)⟩
    obtain ⟨y0, e0⟩ := g 0 (by omega)
    obtain ⟨y1, e1⟩ := g 1 (by omega)
    obtain ⟨y2, e2⟩ := g 2 (by omega)
    obtain ⟨y3, e3⟩ := g 3 (by omega)
    obtain ⟨z0, f0, -, w0⟩ := DataW.trod_int (k := .i64) Try.underlying3 ((hf 0 _ rfl).trans e0)
    obtain ⟨z1, f1, -, w1⟩ := DataW.trod_int (k := .u64) Try.underlying33 ((hf 1 _ rfl).trans e1)
    obtain ⟨z2, f2, -, w2⟩ := DataW.trod_int (k := .i64) Try.underlying3 ((hf 2 _ rfl).trans e2)
    obtain ⟨u, b, f3, hb⟩ := open_bytes_cell ((hf 3 _ rfl).trans e3)
    have c1i : Try.prog.cellsOf 3 = 1 := by kernel_rfl
    have c1u : Try.prog.cellsOf 33 = 1 := by kernel_rfl
    have c1s : Try.prog.cellsOf 29 = 1 := by kernel_rfl
    simp [c1i, c1u, c1s] at f0 f1 f2 f3
    subst f0 f1 f2 f3
    have b1 := u64_bdW w1
    obtain ⟨N, rfl⟩ := Int.eq_ofNat_of_zero_le b1.1
    exact ⟨⟨z0, N, z2, c3, b⟩, rfl, ⟨i64_bdW w0, by show N < _; omega, i64_bdW w2⟩, hb⟩
set_option maxRecDepth 10000 in
theorem open_puts {v : Value} {r : Reach} {b0 : Nat} {d : DataW H} {ps : List MemPlace} (hv : Value.okWide Try.prog W r b0 22 v)
    (h : DataW.Trod enc Try.prog W 0 (fun _ => true) held 22 v d ps) : ∃ l : List PutR, PutS W v l := by
  have hcs : v.cells = #[v] := by
    simp only [Value.okWide, Try.underlying22] at hv
    cases v <;> first | rfl | simp [Cell.okWide, Cell.ok] at hv
  obtain ⟨fuel, hf⟩ := h
  rw [hcs] at hf
  rcases open_slice Try.underlying22 hf with ⟨h0, _⟩ | ⟨a, len, cap, m, n, D, Pl, h0, hb, hl, hm, hmm, hx, hi⟩
  · exact ⟨[], none, 0, by injection h0, Nat.le_refl _, Nat.zero_le _, fun x hx => absurd hx (by simp), fun h => absurd rfl h⟩
  · simp only [ite_true] at hmm
    subst hmm
    have key : ∀ i, i < len → ∃ p : PutR, (p.wf ∧ BS W p.v p.b) ∧ ∀ j, j < 4 → W.cell? ((a.add (i * 4)).add j) = ([.int .i64 p.kind, .int .u64 (p.n : Int), .int .i64 p.size, p.v] : List Value)[j]? := by
      intro i hil
      obtain ⟨cs', h1, h2⟩ := hi i (by omega)
      obtain ⟨p, rfl, hw, hbs⟩ := open_put h2
      rw [putCells] at h1
      obtain ⟨_, _, hcell⟩ := World.cells?_some h1
      exact ⟨p, ⟨hw, hbs⟩, hcell⟩
    have : Inhabited PutR := ⟨⟨0, 0, 0, .slice none 0 0, []⟩⟩
    obtain ⟨f, hf⟩ := choose_lt key
    refine ⟨(List.range len).map f, some a, m, by injection h0 with h0 _; rw [h0]; simp, by simpa using hl, hm, ?_, ?_⟩
    · intro x hx
      obtain ⟨i, hi, rfl⟩ := List.mem_map.1 hx
      exact (hf i (List.mem_range.1 hi)).1
    · intro hne
      have hpos : 0 < len := by
        rcases Nat.eq_zero_or_pos len with h | h
        · subst h; simp at hne
        · exact h
      have h00 := (hf 0 hpos).2 0 (by omega)
      have hsp := spot_none h00
      have hbl := cell_blockW h00
      obtain ⟨b, o, sp⟩ := a
      have hs' : sp = none := by simpa [Addr.add] using hsp
      subst hs'
      refine ⟨b, o, rfl, by simpa [Addr.add] using hbl, fun i x hx => ?_⟩
      rw [List.getElem?_map] at hx
      rcases Nat.lt_or_ge i len with hil | hil
      · rw [List.getElem?_range hil] at hx
        injection hx with hx
        subst hx
        have hg := (hf i hil).2
        rw [Go.WideShapes.add_plain] at hg
        have hg' : ∀ j, j < 4 → W.cell? ⟨b, o + i * 4 + j, none⟩ = ([.int .i64 (f i).kind, .int .u64 ((f i).n : Int), .int .i64 (f i).size, (f i).v] : List Value)[j]? := fun j hj => by have := hg j hj; rwa [Go.WideShapes.add_plain] at this
        exact ⟨hg' 0 (by omega), hg' 1 (by omega), hg' 2 (by omega), hg' 3 (by omega)⟩
      · rw [List.getElem?_eq_none (by simpa using hil)] at hx
        cases hx
end
def fewB (l : List PutR) : Bool := l.all (fun x => decide (x.b.length ≤ 3000))

set_option maxHeartbeats 1000000 in
theorem few_any (l : List PutR) (p : Option Addr) (n cap : Nat) (hn : n = l.length) (most : Int) (w : World) (hs : PutS w (.slice p n cap) l) :
    Calls Try.prog 11 #[.slice p n cap, .int .i64 most] w fun e w' => e = .returned (.bool (fewB l && decide ((n : Int) ≤ most))) ∧ w = w' := by
  obtain ⟨p', cap', e, h2, h3, h4, h5⟩ := hs
  injection e with e1 e2 e3
  subst e1; subst e3
  have H5 := Lib.hid h5; clear h5
  have H4 := Lib.hid h4; clear h4
  rw [← hn] at h2
  have HN := Lib.hid hn; clear hn e2
  unfold maxLen at h3
  have HF : Hid (fewB l = l.all (fun x => decide (x.b.length ≤ 3000))) := Lib.hid rfl
  go_enter Try.func11, Try.ntmps11
  go_wp2
  go_loop [5] (fun i => ∃ k : Nat, k ≤ n ∧ i = .int .i64 k ∧ fewB l = (l.drop k).all (fun x => decide (x.b.length ≤ 3000))) (fun i => n - (intOf i).toNat)
  case atStart => exact ⟨0, Nat.zero_le _, rfl, rfl⟩
  case round =>
    obtain ⟨k, hk, rfl, hall⟩ := hrel
    have HA := Lib.hid hall; clear hall
    by_cases hlt : k < n
    · obtain ⟨x, hx⟩ : ∃ x, l[k]? = some x := ⟨_, List.getElem?_eq_getElem (by have := HN.out; omega)⟩
      obtain ⟨b, o, rfl, hbs, hc⟩ := H5.out (by intro h; subst h; simp at hx)
      obtain ⟨c0, c1, c2, c3⟩ := hc k x hx
      obtain ⟨q, c, hq, hq1, hq2, -⟩ := (H4.out x (List.mem_of_getElem? hx)).2
      have hdr : l.drop k = x :: l.drop (k + 1) := by
        obtain ⟨hk', hx'⟩ := List.getElem?_eq_some_iff.1 hx
        rw [List.drop_eq_getElem_cons hk', hx']
      have HD := Lib.hid hdr; clear hdr
      rw [hq] at c3
      unfold maxLen at hq2
      clear hx hc hq c0 c1 c2
      generalize hbl : x.b.length = bl at *
      have HBL := Lib.hid hbl; clear hbl
      by_cases hbig : 3000 < bl
      · have HNO : Hid (fewB l = false) := Lib.hid (by rw [HA.out, HD.out, List.all_cons, HBL.out]; simp; intro h; omega)
        go_wp2
        go_ret
        exact ⟨ret_boolW (by rw [HNO.out]; rfl), rfl⟩
      · have HY : Hid (fewB l = (l.drop (k + 1)).all (fun x => decide (x.b.length ≤ 3000))) := Lib.hid (by rw [HA.out, HD.out, List.all_cons, HBL.out]; simp; intro _; omega)
        go_wp2
        go_round
        case rel => exact ⟨k + 1, by omega, by go_num, HY.out⟩
        case measure => simp [intOf]; omega
    · obtain rfl : k = n := by omega
      have HT : Hid (fewB l = true) := Lib.hid (by rw [HA.out, List.drop_of_length_le (by have := HN.out; omega)]; rfl)
      go_wp2
      go_ret
      exact ⟨ret_boolW (by rw [HT.out]; simp), rfl⟩
end Go.Proofs.Ytfpcpnjegbmdbaa
