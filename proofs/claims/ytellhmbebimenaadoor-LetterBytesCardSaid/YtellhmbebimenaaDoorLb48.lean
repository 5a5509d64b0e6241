/- Contract: the reference's bytes of a letter (couponref20.Bytes). Contracts of the program's Of and Text. -/
import Derived.Test.YtellhmbebimenaaDoorLb47
import Derived.Test.YtellhmbebimenaaDoorLb26
import Derived.Test.YtellhmbebimenaaDoorLb19

section
set_option linter.unusedVariables false
set_option linter.unusedSimpArgs false
namespace Go.Proofs.YtellhmbebimenaaDoor
open Go.RowKit

theorem rMailB_any (m : Ml) (ht : U64 m.tk) (hm : m.may = true) (w : World) :
    Calls Tryd.prog 58 #[.agg m.arr] w fun e w' => ∃ u, e = .returned u ∧ w'.ownsRow w.heap.size 5 1 u (encM m).length (bytesV (encM m)) ∧ Below w.heap.size w w' := by
  obtain ⟨hk, hn, hc, hco, hd, hw, hz2, hz3, hzc⟩ := ml_facts hm
  obtain ⟨k, tk, c, d, co, fl, dy, va, st, ho, nx⟩ := m
  simp only at hk hc hco hd hw ht
  exact rMailBytes_any k tk c d co fl dy va st ho nx ⟨by omega, by omega⟩ ⟨ht.1, by have := ht.1; have := ht.2; omega⟩ ⟨by omega, by omega⟩
    ⟨fun h => by have := hco h; exact ⟨by omega, by omega⟩, fun h => by have := hd h; exact ⟨by omega, by omega⟩, fun h => by obtain ⟨w1, w2, w3, -⟩ := hw h; exact ⟨⟨by omega, by omega⟩, ⟨by omega, by omega⟩, ⟨by omega, by omega⟩⟩⟩ w
attribute [local go_sem ↓] ml_execLoad lt_execLoad

attribute [local go_sem] ml_load lt_load loL_drew okL_drew

set_option maxRecDepth 8000 in
set_option maxHeartbeats 4000000 in
theorem rBytes20_any (x : Lt) (hw : x.wf) (hm : x.may = true) (w : World) :
    Calls Tryd.prog 19 #[.agg #[.int .i64 x.f, .int .i64 x.t, .int .u64 x.n, .int .u64 x.a, .int .i64 x.k, .int .u64 x.tk, .int .i64 x.c, .int .i64 x.d, .int .i64 x.co, .int .i64 x.fl, .int .i64 x.dy, .int .i64 x.va, .int .i64 x.st, .int .i64 x.ho, .int .u64 x.nx]] w fun e w' => ∃ u, e = .returned u ∧ w'.ownsRow w.heap.size 5 1 u (encLt x).length (bytesV (encLt x)) ∧ Below w.heap.size w w' := by
  have F0 := lt_facts hm
  have HMB : Hid (∀ W : World, ¬ x.n = 0 → Calls Tryd.prog 58 #[.agg #[.int .i64 x.k, .int .u64 x.tk, .int .i64 x.c, .int .i64 x.d, .int .i64 x.co, .int .i64 x.fl, .int .i64 x.dy, .int .i64 x.va, .int .i64 x.st, .int .i64 x.ho, .int .u64 x.nx]] W fun e w' => ∃ u, e = .returned u ∧ w'.ownsRow W.heap.size 5 1 u (encM x.ml).length (bytesV (encM x.ml)) ∧ Below W.heap.size W w') := Lib.hid (fun W h => rMailB_any x.ml hw.tk (F0.m h) W)
  have HLM := Lib.hid (encM_len x.ml)
  obtain ⟨n0, n1⟩ := hw.n
  obtain ⟨a0, a1⟩ := hw.a
  have hf := F0.f; have ht := F0.t
  have f1 : fitB x.f 65536 := ⟨by omega, by omega⟩
  have f2 : fitB x.t 65536 := ⟨by omega, by omega⟩
  have f3 : fitB x.n 18446744073709551616 := ⟨by omega, by omega⟩
  have f4 : fitB x.a 18446744073709551616 := ⟨by omega, by omega⟩
  have z1 := wrap_fit f1 (by decide)
  have z2 := wrap_fit f2 (by decide)
  have HE : Hid (encLt x = if x.n = 0 then encLh x else encLh x ++ encM x.ml) := Lib.hid rfl
  have HN0 := Lib.hid n0
  have hb := (Below.refl w.heap.size w).alloc (Nat.le_refl _) (.cells #[.int .i64 x.f, .int .i64 x.t, .int .u64 x.n, .int .u64 x.a, .int .i64 x.k, .int .u64 x.tk, .int .i64 x.c, .int .i64 x.d, .int .i64 x.co, .int .i64 x.fl, .int .i64 x.dy, .int .i64 x.va, .int .i64 x.st, .int .i64 x.ho, .int .u64 x.nx] 31)
  have hrw := new_rowW w (.cells #[.int .i64 x.f, .int .i64 x.t, .int .u64 x.n, .int .u64 x.a, .int .i64 x.k, .int .u64 x.tk, .int .i64 x.c, .int .i64 x.d, .int .i64 x.co, .int .i64 x.fl, .int .i64 x.dy, .int .i64 x.va, .int .i64 x.st, .int .i64 x.ho, .int .u64 x.nx] 31) _ rfl
  have hl1 : ([] ++ Wire.be x.f.toNat 2).length ≤ 1000 := by rw [List.nil_append, Wire.be_length]; decide
  have hl2 : ([] ++ Wire.be x.f.toNat 2 ++ Wire.be x.t.toNat 2).length ≤ 1000 := by rw [List.nil_append, List.length_append, Wire.be_length, Wire.be_length]; decide
  have hl3 : ([] ++ Wire.be x.f.toNat 2 ++ Wire.be x.t.toNat 2 ++ Wire.be x.n.toNat 8).length ≤ 1000 := by rw [List.nil_append, List.length_append, List.length_append, Wire.be_length, Wire.be_length, Wire.be_length]; decide
  have HEH : Hid ([] ++ Wire.be x.f.toNat 2 ++ Wire.be x.t.toNat 2 ++ Wire.be x.n.toNat 8 ++ Wire.be x.a.toNat 8 = encLh x) := Lib.hid (by unfold encLh; simp)
  have HLH : Hid ((encLh x).length = 20) := Lib.hid (by unfold encLh; simp only [List.length_append, Wire.be_length])
  clear F0 n0 n1 a0 a1 hf ht hw hm
  go_enter Tryd.func19, Tryd.ntmps19
  go_upto_region 1 with fail
  generalize w.alloc (.cells #[.int .i64 x.f, .int .i64 x.t, .int .u64 x.n, .int .u64 x.a, .int .i64 x.k, .int .u64 x.tk, .int .i64 x.c, .int .i64 x.d, .int .i64 x.co, .int .i64 x.fl, .int .i64 x.dy, .int .i64 x.va, .int .i64 x.st, .int .i64 x.ho, .int .u64 x.nx] 31) = W0 at *
  have hc0 := fun j => cell_of_row W0 w.heap.size j _ _ _ hrw
  have hb := hb.drew
  have hbz : w.heap.size ≤ W0.drew.heap.size := hb.size
  have hrw : W0.drew.heap[w.heap.size]? = _ := hrw
  go_region_held3 (fun w' => w'.cell? ⟨w.heap.size, 0, none⟩ = some (.int .i64 x.f) ∧ w'.cell? ⟨w.heap.size, 1, none⟩ = some (.int .i64 x.t) ∧ w'.cell? ⟨w.heap.size, 2, none⟩ = some (.int .u64 x.n) ∧ w'.cell? ⟨w.heap.size, 3, none⟩ = some (.int .u64 x.a)) (first | exact ⟨cell_of_row _ _ 0 _ _ _ hrw, cell_of_row _ _ 1 _ _ _ hrw, cell_of_row _ _ 2 _ _ _ hrw, cell_of_row _ _ 3 _ _ _ hrw⟩ | go_keep) (first
    | (go_at_call 57; refine (put20_any w.heap.size _ _ x.a 8 (by decide) f4 (by decide) hl3 _ hbz ho3).mono ?_; rintro e w4 ⟨u4, rfl, ho4, hg4⟩; have hrw := row_put ho3 hg4 hrw (by decide); have hb := below_put hb hbz ho3 hg4; have hbz := Nat.le_trans hbz hg4.size)
    | (go_at_call 57; refine (put20_any w.heap.size _ _ x.n 8 (by decide) f3 (by decide) hl2 _ hbz ho2).mono ?_; rintro e w3 ⟨u3, rfl, ho3, hg3⟩; have hrw := row_put ho2 hg3 hrw (by decide); have hb := below_put hb hbz ho2 hg3; have hbz := Nat.le_trans hbz hg3.size)
    | (go_at_call 57; refine (put20_any w.heap.size _ _ x.t 2 (by decide) f2 (by decide) hl1 _ hbz ho1).mono ?_; rintro e w2 ⟨u2, rfl, ho2, hg2⟩; have hrw := row_put ho1 hg2 hrw (by decide); have hb := below_put hb hbz ho1 hg2; have hbz := Nat.le_trans hbz hg2.size)
    | (go_at_call 57; refine (put20_any w.heap.size (.slice none 0 0) [] x.f 2 (by decide) f1 (by decide) (by decide) _ hbz (World.ownsRow_nil _ _ _ _)).mono ?_; rintro e w1 ⟨u1, rfl, ho1, hg1⟩; have hrw := row_put (World.ownsRow_nil W0.drew w.heap.size 5 1) hg1 hrw (by decide); have hb := below_put hb hbz (World.ownsRow_nil W0.drew w.heap.size 5 1) hg1; have hbz := Nat.le_trans hbz hg1.size))
  rw [HEH.out] at ho4
  have HB := Lib.hid hb
  have HR := Lib.hid hrw
  have HO := Lib.hid ho4
  clear hb hrw ho1 ho2 ho3 ho4 hg1 hg2 hg3 hg4 hc0 hl1 hl2 hl3 f1 f2 f3 f4 z1 z2 hbz HEH
  have hcp := fun j => cell_of_row w4 w.heap.size j _ _ _ HR.out
  by_cases h0 : x.n = 0
  · have hn0 : decide (0 < x.n) = false := by simp; omega
    have HE : Hid (encLt x = encLh x) := Lib.hid (by rw [HE.out, if_pos h0])
    have hgt : ¬ 0 < x.n := by omega
    clear HMB h0
    go_wp2
    go_ret
    exact ⟨_, rfl, by rw [HE.out]; exact HO.out, HB.out⟩
  · have hgt : 0 < x.n := by have := HN0.out; omega
    have HE : Hid (encLt x = encLh x ++ encM x.ml) := Lib.hid (by rw [HE.out, if_neg h0])
    have HMC := Lib.hid (fun W => HMB.out W h0)
    clear HMB h0
    obtain ⟨g1, g2⟩ := row_loO 11 4 HR.out (ds := [.int .i64 x.k, .int .u64 x.tk, .int .i64 x.c, .int .i64 x.d, .int .i64 x.co, .int .i64 x.fl, .int .i64 x.dy, .int .i64 x.va, .int .i64 x.st, .int .i64 x.ho, .int .u64 x.nx]) rfl rfl
    go_wp2_with fail
    clear g1 g2 hcp
    refine (HMC.out _).mono ?_
    rintro e w5 ⟨v5, rfl, ho5, hb5⟩
    have HB5 := Lib.hid (BS.of_own ho5)
    have HO := Lib.hid (own_below HO.out hb5)
    have HB := Lib.hid (HB.out.trans (hb5.mono HB.out.size))
    clear ho5 hb5
    go_wp2_with (at_builtin; refine wpList_append_bytes rfl _ _ rfl w.heap.size _ _ _ rfl HO.out _ _ rfl HB5.out ?c1 ?c2 ?_)
    case c1 => have := HLH.out; have := HLM.out; omega
    case c2 => exact HB.out.size
    intro u6 w6 hown hg hn2 hat2
    have HZ : Hid (w6.ownsRow w.heap.size 5 1 u6 (encLt x).length (bytesV (encLt x))) := Lib.hid (by rw [HE.out, List.length_append, bytesV_append]; exact hown)
    have HBZ := Lib.hid (below_put HB.out HB.out.size HO.out hg)
    clear hown hg hn2 hat2
    go_wp2
    go_ret
    exact ⟨_, rfl, HZ.out, HBZ.out⟩
end Go.Proofs.YtellhmbebimenaaDoor
end

section
set_option linter.unusedSimpArgs false
set_option linter.unusedVariables false
namespace Go.Proofs.YtellhmbebimenaaDoor
open Go.RowKit

theorem ofE_notall {s : ByteArray} {k : Nat} (h : k < s.size) (hb : Dec.isDig s[k] = false) : Num.ofE s.data.toList = 4 ∧ Num.ofN s.data.toList = 0 := by
  apply ofE_short
  right
  rw [Bool.eq_false_iff]
  intro ha
  have := List.all_eq_true.1 ha _ (mem_of_lt s k h)
  rw [hb] at this; cases this

/-- a row of runes, and thirteen noughts: behind plain names, so that the walk doesn't write them out -/
def runeRow (zs : List Int) : Array Value := (zs.map (Value.int .i32)).toArray
def zeros13 : List Int := List.replicate 13 0
theorem runeRow_at {zs : List Int} {j : Nat} (h : j < zs.length) : (runeRow zs)[j]? = some (.int .i32 (zs.getD j 0)) := by
  unfold runeRow; simp [List.getElem?_eq_getElem h, h]
theorem runeRow_set (zs : List Int) (j : Nat) (v : Int) : (runeRow zs).setIfInBounds j (.int .i32 v) = runeRow (zs.set j v) := by
  unfold runeRow; simp [List.map_set]

theorem encode_ascii (c : UInt8) (h : Dec.isDig c = true) : Utf8.encode (c.toNat : Int) = ⟨#[c]⟩ := by
  have hc := Dec.isDig_iff.1 h
  have hv : Utf8.valid (c.toNat : Int) = true := by simp [Utf8.valid]; omega
  unfold Utf8.encode
  simp only [hv, if_true]
  rw [if_pos (by show (c.toNat : Int).toNat < 128; omega)]
  simp
theorem runes_ascii (acc : List UInt8) : ∀ s : ByteArray, acc.all Dec.isDig = true → (acc.map (fun c => (c.toNat : Int))).foldl (fun r n => r ++ Utf8.encode n) s = s ++ ⟨acc.toArray⟩ := by
  induction acc with
  | nil => intro s _; apply ByteArray.ext; simp
  | cons c acc ih =>
    intro s h
    rw [List.all_cons, Bool.and_eq_true] at h
    rw [List.map_cons, List.foldl_cons, ih _ h.2, encode_ascii c h.1]
    apply ByteArray.ext
    simp
theorem runesBytes_ascii (acc : List UInt8) (h : acc.all Dec.isDig = true) : runesBytes (acc.map (fun c => (c.toNat : Int))) = ⟨acc.toArray⟩ := by
  unfold runesBytes
  rw [runes_ascii acc _ h]
  apply ByteArray.ext
  simp
theorem drop_set_step (zs : List Int) (v : Int) (k : Nat) (hz : zs.length = 13) (hk : k < 13) : (zs.set (12 - k) v).drop (13 - (k + 1)) = v :: zs.drop (13 - k) := by
  rw [show 13 - (k + 1) = 12 - k from by omega, List.drop_eq_getElem_cons (by simp; omega)]
  rw [show 13 - k = 12 - k + 1 from by omega]
  simp [List.drop_set]

set_option maxHeartbeats 1000000 in
theorem text_any (n : Int) (h0 : 0 ≤ n) (h1 : n ≤ 18446744073709551615) (w : World) :
    Calls Tryd.prog 72 #[.int .u64 n] w fun e w' => e = .returned (.string (if Num.check n = 0 then ⟨(Dec.text n.toNat 13).toArray⟩ else ⟨#[]⟩)) ∧ Below w.heap.size w w' := by
  obtain ⟨N, rfl⟩ := Int.eq_ofNat_of_zero_le h0
  simp only [Int.toNat_natCast]
  by_cases hc : Num.check N = 0
  · rw [if_pos hc]
    have hcb : (Num.check N != 0) = false := by rw [hc]; rfl
    clear hc
    have hmk : ∀ w : World, (Instr.makeSlice 171 (.int .i64 13) (.int .i64 13)).run Tryd.prog w = .ok (.slice (some ⟨w.heap.size, 0, none⟩) 13 13) (w.alloc (.cells (runeRow zeros13) 21)) := fun _ => by kernel_rfl
    go_enter Tryd.func72, Tryd.ntmps72
    go_wp2_with (first | (go_at_call 71; refine (check_any _ (by omega) (by omega) _).mono ?_; rintro e w' ⟨rfl, rfl⟩))
    go_loopw [0, 11] (fun n5 i wr => ∃ (k N' : Nat) (zs : List Int) (acc : List UInt8), k ≤ 13 ∧ i = .int .i64 k ∧ n5 = .int .u64 N' ∧ N' ≤ 18446744073709551615 ∧ zs.length = 13 ∧ wr = w.alloc (.cells (runeRow zs) 21) ∧
        (zs.drop (13 - k) = acc.map (fun c => (c.toNat : Int)) ∧ Dec.text N 13 = Dec.text N' (13 - k) ++ acc)) (fun _ i _ => 13 - (intOf i).toNat)
    case atStart => exact ⟨0, N, zeros13, [], Nat.zero_le _, rfl, rfl, by omega, by decide, rfl, rfl, by simp⟩
    case round =>
      obtain ⟨k, N', zs, acc, hk, rfl, rfl, hN, hz, rfl, hrest⟩ := hrel
      have HR := Lib.hid hrest; clear hrest
      have HZ := Lib.hid hz; clear hz
      clear hmk hcb
      by_cases hlt : k < 13
      · have hck := runeRow_at (zs := zs) (j := 12 - k) (by have := HZ.out; omega)
        go_wp2
        go_roundw
        case rel =>
          refine ⟨k + 1, N' / 10, zs.set (12 - k) (48 + (N' : Int) % 10), Dec.dig N' :: acc, by omega, by go_num, by go_num, by omega, by rw [List.length_set]; exact HZ.out, by rw [runeRow_set], ?_, ?_⟩
          · rw [drop_set_step _ _ _ HZ.out hlt, HR.out.1, List.map_cons, Dec.dig_toNat]
            congr 1
          · rw [HR.out.2, show 13 - k = (13 - (k + 1)) + 1 from by omega]
            simp [Dec.text]
        case measure => simp [intOf]; omega
      · obtain rfl : k = 13 := by omega
        have ha : Dec.text N 13 = acc := by rw [HR.out.2]; rfl
        have hzs : zs = (Dec.text N 13).map (fun c => (c.toNat : Int)) := by rw [ha, ← HR.out.1]; rfl
        have hcv : (convert 171 9 (.slice (some ⟨w.heap.size, 0, none⟩) 13 13)).run Tryd.prog (w.alloc (.cells (runeRow zs) 21)) = .ok (.string ⟨(Dec.text N 13).toArray⟩) (w.alloc (.cells (runeRow zs) 21)) := by
          rw [run_convert_runes _ 171 9 21 ⟨w.heap.size, 0, none⟩ 13 13 zs (by rw [HZ.out]; exact Nat.le_refl _) Tryd.underlying171 Tryd.underlying21 Tryd.underlying9 (fun j hj => by
            have h1 : (w.alloc (.cells (runeRow zs) 21)).cell? ⟨w.heap.size, j, none⟩ = (runeRow zs)[j]? := World.cell?_alloc_mark w _ _ (0, 0) j
            have h2 : (Addr.add ⟨w.heap.size, 0, none⟩ j) = ⟨w.heap.size, j, none⟩ := by unfold Addr.add; split <;> simp_all
            rw [h2, h1, runeRow_at hj])]
          rw [List.take_of_length_le (by rw [HZ.out]; exact Nat.le_refl _), hzs, runesBytes_ascii _ (Dec.text_all _ _)]
        clear hzs ha
        go_wp2
        go_ret
        exact ⟨rfl, (Below.refl _ _).alloc (Nat.le_refl _) _⟩
  · rw [if_neg hc]
    have hcb : (Num.check N != 0) = true := bne_iff_ne.2 hc
    clear hc
    go_enter Tryd.func72, Tryd.ntmps72
    go_wp2_with (first | (go_at_call 71; refine (check_any _ (by omega) (by omega) _).mono ?_; rintro e w' ⟨rfl, rfl⟩))
    go_ret
    exact ⟨rfl, Below.refl _ _⟩
end Go.Proofs.YtellhmbebimenaaDoor
end
