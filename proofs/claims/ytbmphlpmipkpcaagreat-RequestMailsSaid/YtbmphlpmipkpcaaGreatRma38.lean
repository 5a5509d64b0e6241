/- Contracts: a mail's bytes (request.MailBytes). -/
import Derived.Test.YtbmphlpmipkpcaaGreatRma28
import Derived.Test.YtbmphlpmipkpcaaGreatRma36

set_option linter.unusedVariables false
set_option linter.unusedSimpArgs false
namespace Go.Proofs.YtbmphlpmipkpcaaGreat
open Go.RowKit

theorem ml_execLoad (ρ : Operand → Value) (dst : Option Tmp) (x : Operand) (ty : TypeId) (pos : String) (after : Array Edge) (guard : Option (Nat × Bool)) :
    execOp ρ { dst, op := .load 78 x, type := ty, pos, after, guard } = recLoad 78 (ρ x) := rfl
theorem ml_load (w : World) (b o : Nat) (h : okL 11 w b o) : (recLoad 78 (.pointer (some ⟨b, o, none⟩))).run Tryz.prog w = .ok (.value (.agg (loL 11 w b o).toArray)) w := by
  unfold recLoad
  rw [Sem.run_bind, run_load_rec 11 Tryz.underlying78 rfl (by kernel_rfl) w b o h]
  rfl
theorem ml_execStore (ρ : Operand → Value) (dst : Option Tmp) (x y : Operand) (ty : TypeId) (pos : String) (after : Array Edge) (guard : Option (Nat × Bool)) :
    execOp ρ { dst, op := .store 78 x y, type := ty, pos, after, guard } = recStore 78 (ρ x) (ρ y) := rfl
theorem ml_store (w : World) (b o : Nat) (cs : List Value) (ht : w.there b o 11) (hn : cs.length = 11) (h1 : cs.all (·.oneCell') = true) :
    (recStore 78 (.pointer (some ⟨b, o, none⟩)) (.agg cs.toArray)).run Tryz.prog w = .ok .skip (w.setCells b o cs) := by
  unfold recStore
  rw [Sem.run_bind, run_store_rec 11 (by kernel_rfl) w b o cs ht hn h1]
  rfl
attribute [local go_sem ↓] ml_execLoad

attribute [local go_sem] ml_load loL_drew okL_drew

set_option maxRecDepth 8000 in
set_option maxHeartbeats 2000000 in
theorem mailBytes_no (k tk c d co fl dy va st ho nx : Int) (ht : U64 tk) (hva : I64 va) (hm : Ltr.mailB k tk c d co fl dy va st ho nx = false) (w : World) :
    Calls Tryz.prog 36 #[.agg #[.int .i64 k, .int .u64 tk, .int .i64 c, .int .i64 d, .int .i64 co, .int .i64 fl, .int .i64 dy, .int .i64 va, .int .i64 st, .int .i64 ho, .int .u64 nx]] w fun e w' => e = .returned (.tuple #[.slice none 0 0, .int .i64 2]) ∧ Below w.heap.size w w' := by
  have HMM := Lib.hid (fun W => mayMail_any k tk c d co fl dy va st ho nx ht hva W)
  have HBB := Lib.hid ((Below.refl w.heap.size w).alloc (Nat.le_refl _) (.cells #[.int .i64 k, .int .u64 tk, .int .i64 c, .int .i64 d, .int .i64 co, .int .i64 fl, .int .i64 dy, .int .i64 va, .int .i64 st, .int .i64 ho, .int .u64 nx] 78))
  have HR0 := Lib.hid (new_rowW w (.cells #[.int .i64 k, .int .u64 tk, .int .i64 c, .int .i64 d, .int .i64 co, .int .i64 fl, .int .i64 dy, .int .i64 va, .int .i64 st, .int .i64 ho, .int .u64 nx] 78) _ rfl)
  obtain ⟨f1, f2⟩ := row_loT 11 HR0.out rfl rfl
  rw [hm] at HMM
  clear hm ht hva
  go_enter Tryz.func36, Tryz.ntmps36
  go_wp2_with (go_at_call 38; refine (HMM.out _).mono ?_; rintro e wn ⟨rfl, hbn⟩)
  go_ret2
  exact ⟨rfl, HBB.out.trans (hbn.mono HBB.out.size)⟩

set_option maxRecDepth 8000 in
set_option maxHeartbeats 2000000 in
theorem mailBytesO (K tk c d : Nat) (co fl dy va st ho nx : Int) (hK : K < 256) (h3 : ¬ (K : Int) = 3) (h2 : ¬ (K : Int) = 2) (htk : tk < 18446744073709551616) (hc : c < 256) (hd : d < 4294967296) (ht : U64 (tk : Int)) (hva : I64 va) (hm : Ltr.mailB (K : Int) (tk : Int) (c : Int) (d : Int) co fl dy va st ho nx = true) (w : World) :
    Calls Tryz.prog 36 #[.agg #[.int .i64 (K : Int), .int .u64 (tk : Int), .int .i64 (c : Int), .int .i64 (d : Int), .int .i64 co, .int .i64 fl, .int .i64 dy, .int .i64 va, .int .i64 st, .int .i64 ho, .int .u64 nx]] w fun e w' => ∃ v, e = .returned (.tuple #[v, .int .i64 0]) ∧ w'.ownsRow w.heap.size 5 1 v (((([] ++ Wire.be K 1) ++ Wire.be tk 8) ++ Wire.be c 1) ++ Wire.be d 4 : List UInt8).length (bytesV (((([] ++ Wire.be K 1) ++ Wire.be tk 8) ++ Wire.be c 1) ++ Wire.be d 4)) ∧ Below w.heap.size w w' := by
  have HMM := Lib.hid (fun W => mayMail_any (K : Int) (tk : Int) (c : Int) (d : Int) co fl dy va st ho nx ht hva W)
  have HBB := Lib.hid ((Below.refl w.heap.size w).alloc (Nat.le_refl _) (.cells #[.int .i64 (K : Int), .int .u64 (tk : Int), .int .i64 (c : Int), .int .i64 (d : Int), .int .i64 co, .int .i64 fl, .int .i64 dy, .int .i64 va, .int .i64 st, .int .i64 ho, .int .u64 nx] 78))
  have HR0 := Lib.hid (new_rowW w (.cells #[.int .i64 (K : Int), .int .u64 (tk : Int), .int .i64 (c : Int), .int .i64 (d : Int), .int .i64 co, .int .i64 fl, .int .i64 dy, .int .i64 va, .int .i64 st, .int .i64 ho, .int .u64 nx] 78) _ rfl)
  obtain ⟨f1, f2⟩ := row_loT 11 HR0.out rfl rfl
  rw [hm] at HMM
  clear hm ht hva
  have hwk : IntKind.u64.wrap (K : Int) = (K : Int) := by rw [IntKind.wrap_u64]; omega
  go_enter Tryz.func36, Tryz.ntmps36
  go_wp2_with fail
  clear f1 f2
  refine (HMM.out _).mono ?_
  rintro e w1 ⟨rfl, hbn⟩
  have HB1 := Lib.hid (HBB.out.trans (hbn.mono HBB.out.size))
  have HR1 := Lib.hid ((hbn.block _ (block_lt HR0.out)).trans HR0.out)
  clear hbn
  have hc1 := fun j => cell_of_row w1 w.heap.size j _ _ _ HR1.out
  have hlt : w.heap.size < w1.heap.size := block_lt HR1.out
  go_wp2_with fail
  refine (wnumber_okE (new_writer w1) (by omega) K 1 (by decide) (by show K < 256; omega)).mono ?_
  rintro e w2 ⟨rfl, hst⟩
  have HW2 := Lib.hid hst.1
  have HB2 := Lib.hid ((HB1.out.alloc HB1.out.size (.cells #[.slice none 0 0, .int .i64 0, .bool false] 138)).trans (hst.2.1.mono (by have := HB1.out.size; omega)))
  have HR2 := Lib.hid ((hst.2.1.block _ hlt).trans (row_allocW HR1.out (.cells #[.slice none 0 0, .int .i64 0, .bool false] 138)))
  have hl2 := hst.1.lt
  clear hst hc1
  go_upto_region 4 with fail
  have HX3 := Lib.hid (new_rowW w2 (.cells #[.pointer (some ⟨w1.heap.size, 0, none⟩), .pointer none, .bool false, .pointer (some ⟨w.heap.size, 0, none⟩)] 146) _ rfl)
  have hbn := (Below.refl w2.heap.size w2).alloc (Nat.le_refl _) (.cells #[.pointer (some ⟨w1.heap.size, 0, none⟩), .pointer none, .bool false, .pointer (some ⟨w.heap.size, 0, none⟩)] 146)
  have HR3 := Lib.hid (row_allocW HR2.out (.cells #[.pointer (some ⟨w1.heap.size, 0, none⟩), .pointer none, .bool false, .pointer (some ⟨w.heap.size, 0, none⟩)] 146))
  have HW3 := Lib.hid (HW2.out.below hbn)
  have HB3 := Lib.hid (HB2.out.trans (hbn.mono HB2.out.size))
  clear hbn
  generalize w2.alloc (.cells #[.pointer (some ⟨w1.heap.size, 0, none⟩), .pointer none, .bool false, .pointer (some ⟨w.heap.size, 0, none⟩)] 146) = w3 at *
  generalize w2.heap.size = gx at *
  go_wp2_with fail
  refine (mrunWO gx w.heap.size w1.heap.size w1.heap.size _ _ false (K : Int) st ho nx fl dy va co tk c d h3 h2 htk hc hd w3 HX3.out HR3.out HW3.out (by omega)).mono ?_
  rintro e w4 ⟨rfl, hst⟩
  have HX4 := Lib.hid (hst.2.2.row HX3.out (by decide))
  have HB4 := Lib.hid (HB3.out.trans (hst.2.1.mono (by omega)))
  have HW4 := Lib.hid hst.1
  have hl4 := hst.1.lt
  clear hst
  have hc4 := fun j => cell_of_row w4 gx j _ _ _ HX4.out
  go_wp2_with fail
  refine (wend_some _ _ _ _ (by omega) _ HW4.out).mono ?_
  rintro e w5 ⟨u, rfl, hown, hb5⟩
  have HO := Lib.hid (own_mono hown HB4.out.size)
  have HB5 := Lib.hid (HB4.out.trans (hb5.mono HB4.out.size))
  obtain ⟨q5, c5, rfl⟩ := own_form hown
  clear hown hb5 hc4
  generalize hL : (((([] ++ Wire.be K 1) ++ Wire.be tk 8) ++ Wire.be c 1) ++ Wire.be d 4 : List UInt8) = L at *
  have HL := Lib.hid hL
  clear hL
  generalize hn : L.length = n at *
  have HN := Lib.hid hn
  clear hn
  go_wp2
  go_ret2
  exact ⟨_, rfl, HO.out, HB5.out⟩

set_option maxRecDepth 8000 in
set_option maxHeartbeats 2000000 in
theorem mailBytesD (tk c co : Nat) (d fl dy va st ho nx : Int) (htk : tk < 18446744073709551616) (hc : c < 256) (hco : co < 256) (ht : U64 (tk : Int)) (hva : I64 va) (hm : Ltr.mailB 3 (tk : Int) (c : Int) d (co : Int) fl dy va st ho nx = true) (w : World) :
    Calls Tryz.prog 36 #[.agg #[.int .i64 3, .int .u64 (tk : Int), .int .i64 (c : Int), .int .i64 d, .int .i64 (co : Int), .int .i64 fl, .int .i64 dy, .int .i64 va, .int .i64 st, .int .i64 ho, .int .u64 nx]] w fun e w' => ∃ v, e = .returned (.tuple #[v, .int .i64 0]) ∧ w'.ownsRow w.heap.size 5 1 v (((([] ++ Wire.be 3 1) ++ Wire.be tk 8) ++ Wire.be c 1) ++ Wire.be co 1 : List UInt8).length (bytesV (((([] ++ Wire.be 3 1) ++ Wire.be tk 8) ++ Wire.be c 1) ++ Wire.be co 1)) ∧ Below w.heap.size w w' := by
  have HMM := Lib.hid (fun W => mayMail_any 3 (tk : Int) (c : Int) d (co : Int) fl dy va st ho nx ht hva W)
  have HBB := Lib.hid ((Below.refl w.heap.size w).alloc (Nat.le_refl _) (.cells #[.int .i64 3, .int .u64 (tk : Int), .int .i64 (c : Int), .int .i64 d, .int .i64 (co : Int), .int .i64 fl, .int .i64 dy, .int .i64 va, .int .i64 st, .int .i64 ho, .int .u64 nx] 78))
  have HR0 := Lib.hid (new_rowW w (.cells #[.int .i64 3, .int .u64 (tk : Int), .int .i64 (c : Int), .int .i64 d, .int .i64 (co : Int), .int .i64 fl, .int .i64 dy, .int .i64 va, .int .i64 st, .int .i64 ho, .int .u64 nx] 78) _ rfl)
  obtain ⟨f1, f2⟩ := row_loT 11 HR0.out rfl rfl
  rw [hm] at HMM
  clear hm ht hva
  skip
  go_enter Tryz.func36, Tryz.ntmps36
  go_wp2_with fail
  clear f1 f2
  refine (HMM.out _).mono ?_
  rintro e w1 ⟨rfl, hbn⟩
  have HB1 := Lib.hid (HBB.out.trans (hbn.mono HBB.out.size))
  have HR1 := Lib.hid ((hbn.block _ (block_lt HR0.out)).trans HR0.out)
  clear hbn
  have hc1 := fun j => cell_of_row w1 w.heap.size j _ _ _ HR1.out
  have hlt : w.heap.size < w1.heap.size := block_lt HR1.out
  go_wp2_with fail
  refine (wnumber_okE (new_writer w1) (by omega) 3 1 (by decide) (by show 3 < 256; omega)).mono ?_
  rintro e w2 ⟨rfl, hst⟩
  have HW2 := Lib.hid hst.1
  have HB2 := Lib.hid ((HB1.out.alloc HB1.out.size (.cells #[.slice none 0 0, .int .i64 0, .bool false] 138)).trans (hst.2.1.mono (by have := HB1.out.size; omega)))
  have HR2 := Lib.hid ((hst.2.1.block _ hlt).trans (row_allocW HR1.out (.cells #[.slice none 0 0, .int .i64 0, .bool false] 138)))
  have hl2 := hst.1.lt
  clear hst hc1
  go_upto_region 4 with fail
  have HX3 := Lib.hid (new_rowW w2 (.cells #[.pointer (some ⟨w1.heap.size, 0, none⟩), .pointer none, .bool false, .pointer (some ⟨w.heap.size, 0, none⟩)] 146) _ rfl)
  have hbn := (Below.refl w2.heap.size w2).alloc (Nat.le_refl _) (.cells #[.pointer (some ⟨w1.heap.size, 0, none⟩), .pointer none, .bool false, .pointer (some ⟨w.heap.size, 0, none⟩)] 146)
  have HR3 := Lib.hid (row_allocW HR2.out (.cells #[.pointer (some ⟨w1.heap.size, 0, none⟩), .pointer none, .bool false, .pointer (some ⟨w.heap.size, 0, none⟩)] 146))
  have HW3 := Lib.hid (HW2.out.below hbn)
  have HB3 := Lib.hid (HB2.out.trans (hbn.mono HB2.out.size))
  clear hbn
  generalize w2.alloc (.cells #[.pointer (some ⟨w1.heap.size, 0, none⟩), .pointer none, .bool false, .pointer (some ⟨w.heap.size, 0, none⟩)] 146) = w3 at *
  generalize w2.heap.size = gx at *
  go_wp2_with fail
  refine (mrunWD gx w.heap.size w1.heap.size w1.heap.size _ _ false d st ho nx fl dy va tk c co htk hc hco w3 HX3.out HR3.out HW3.out (by omega)).mono ?_
  rintro e w4 ⟨rfl, hst⟩
  have HX4 := Lib.hid (hst.2.2.row HX3.out (by decide))
  have HB4 := Lib.hid (HB3.out.trans (hst.2.1.mono (by omega)))
  have HW4 := Lib.hid hst.1
  have hl4 := hst.1.lt
  clear hst
  have hc4 := fun j => cell_of_row w4 gx j _ _ _ HX4.out
  go_wp2_with fail
  refine (wend_some _ _ _ _ (by omega) _ HW4.out).mono ?_
  rintro e w5 ⟨u, rfl, hown, hb5⟩
  have HO := Lib.hid (own_mono hown HB4.out.size)
  have HB5 := Lib.hid (HB4.out.trans (hb5.mono HB4.out.size))
  obtain ⟨q5, c5, rfl⟩ := own_form hown
  clear hown hb5 hc4
  generalize hL : (((([] ++ Wire.be 3 1) ++ Wire.be tk 8) ++ Wire.be c 1) ++ Wire.be co 1 : List UInt8) = L at *
  have HL := Lib.hid hL
  clear hL
  generalize hn : L.length = n at *
  have HN := Lib.hid hn
  clear hn
  go_wp2
  go_ret2
  exact ⟨_, rfl, HO.out, HB5.out⟩

set_option maxRecDepth 8000 in
set_option maxHeartbeats 2000000 in
theorem mailBytesG (tk c d fl dy va : Nat) (co st ho nx : Int) (htk : tk < 18446744073709551616) (hc : c < 256) (hd : d < 4294967296) (hfl : fl < 65536) (hdy : dy < 4294967296) (hva2 : va < 9223372036854775808) (ht : U64 (tk : Int)) (hva : I64 (va : Int)) (hm : Ltr.mailB 2 (tk : Int) (c : Int) (d : Int) co (fl : Int) (dy : Int) (va : Int) st ho nx = true) (w : World) :
    Calls Tryz.prog 36 #[.agg #[.int .i64 2, .int .u64 (tk : Int), .int .i64 (c : Int), .int .i64 (d : Int), .int .i64 co, .int .i64 (fl : Int), .int .i64 (dy : Int), .int .i64 (va : Int), .int .i64 st, .int .i64 ho, .int .u64 nx]] w fun e w' => ∃ v, e = .returned (.tuple #[v, .int .i64 0]) ∧ w'.ownsRow w.heap.size 5 1 v ((((((([] ++ Wire.be 2 1) ++ Wire.be tk 8) ++ Wire.be c 1) ++ Wire.be d 4) ++ Wire.be fl 2) ++ Wire.be dy 4) ++ Wire.be va 8 : List UInt8).length (bytesV ((((((([] ++ Wire.be 2 1) ++ Wire.be tk 8) ++ Wire.be c 1) ++ Wire.be d 4) ++ Wire.be fl 2) ++ Wire.be dy 4) ++ Wire.be va 8)) ∧ Below w.heap.size w w' := by
  have HMM := Lib.hid (fun W => mayMail_any 2 (tk : Int) (c : Int) (d : Int) co (fl : Int) (dy : Int) (va : Int) st ho nx ht hva W)
  have HBB := Lib.hid ((Below.refl w.heap.size w).alloc (Nat.le_refl _) (.cells #[.int .i64 2, .int .u64 (tk : Int), .int .i64 (c : Int), .int .i64 (d : Int), .int .i64 co, .int .i64 (fl : Int), .int .i64 (dy : Int), .int .i64 (va : Int), .int .i64 st, .int .i64 ho, .int .u64 nx] 78))
  have HR0 := Lib.hid (new_rowW w (.cells #[.int .i64 2, .int .u64 (tk : Int), .int .i64 (c : Int), .int .i64 (d : Int), .int .i64 co, .int .i64 (fl : Int), .int .i64 (dy : Int), .int .i64 (va : Int), .int .i64 st, .int .i64 ho, .int .u64 nx] 78) _ rfl)
  obtain ⟨f1, f2⟩ := row_loT 11 HR0.out rfl rfl
  rw [hm] at HMM
  clear hm ht hva
  skip
  go_enter Tryz.func36, Tryz.ntmps36
  go_wp2_with fail
  clear f1 f2
  refine (HMM.out _).mono ?_
  rintro e w1 ⟨rfl, hbn⟩
  have HB1 := Lib.hid (HBB.out.trans (hbn.mono HBB.out.size))
  have HR1 := Lib.hid ((hbn.block _ (block_lt HR0.out)).trans HR0.out)
  clear hbn
  have hc1 := fun j => cell_of_row w1 w.heap.size j _ _ _ HR1.out
  have hlt : w.heap.size < w1.heap.size := block_lt HR1.out
  go_wp2_with fail
  refine (wnumber_okE (new_writer w1) (by omega) 2 1 (by decide) (by show 2 < 256; omega)).mono ?_
  rintro e w2 ⟨rfl, hst⟩
  have HW2 := Lib.hid hst.1
  have HB2 := Lib.hid ((HB1.out.alloc HB1.out.size (.cells #[.slice none 0 0, .int .i64 0, .bool false] 138)).trans (hst.2.1.mono (by have := HB1.out.size; omega)))
  have HR2 := Lib.hid ((hst.2.1.block _ hlt).trans (row_allocW HR1.out (.cells #[.slice none 0 0, .int .i64 0, .bool false] 138)))
  have hl2 := hst.1.lt
  clear hst hc1
  go_upto_region 4 with fail
  have HX3 := Lib.hid (new_rowW w2 (.cells #[.pointer (some ⟨w1.heap.size, 0, none⟩), .pointer none, .bool false, .pointer (some ⟨w.heap.size, 0, none⟩)] 146) _ rfl)
  have hbn := (Below.refl w2.heap.size w2).alloc (Nat.le_refl _) (.cells #[.pointer (some ⟨w1.heap.size, 0, none⟩), .pointer none, .bool false, .pointer (some ⟨w.heap.size, 0, none⟩)] 146)
  have HR3 := Lib.hid (row_allocW HR2.out (.cells #[.pointer (some ⟨w1.heap.size, 0, none⟩), .pointer none, .bool false, .pointer (some ⟨w.heap.size, 0, none⟩)] 146))
  have HW3 := Lib.hid (HW2.out.below hbn)
  have HB3 := Lib.hid (HB2.out.trans (hbn.mono HB2.out.size))
  clear hbn
  generalize w2.alloc (.cells #[.pointer (some ⟨w1.heap.size, 0, none⟩), .pointer none, .bool false, .pointer (some ⟨w.heap.size, 0, none⟩)] 146) = w3 at *
  generalize w2.heap.size = gx at *
  go_wp2_with fail
  refine (mrunWG gx w.heap.size w1.heap.size w1.heap.size _ _ false st ho nx co tk c d fl dy va htk hc hd hfl hdy hva2 w3 HX3.out HR3.out HW3.out (by omega)).mono ?_
  rintro e w4 ⟨rfl, hst⟩
  have HX4 := Lib.hid (hst.2.2.row HX3.out (by decide))
  have HB4 := Lib.hid (HB3.out.trans (hst.2.1.mono (by omega)))
  have HW4 := Lib.hid hst.1
  have hl4 := hst.1.lt
  clear hst
  have hc4 := fun j => cell_of_row w4 gx j _ _ _ HX4.out
  go_wp2_with fail
  refine (wend_some _ _ _ _ (by omega) _ HW4.out).mono ?_
  rintro e w5 ⟨u, rfl, hown, hb5⟩
  have HO := Lib.hid (own_mono hown HB4.out.size)
  have HB5 := Lib.hid (HB4.out.trans (hb5.mono HB4.out.size))
  obtain ⟨q5, c5, rfl⟩ := own_form hown
  clear hown hb5 hc4
  generalize hL : ((((((([] ++ Wire.be 2 1) ++ Wire.be tk 8) ++ Wire.be c 1) ++ Wire.be d 4) ++ Wire.be fl 2) ++ Wire.be dy 4) ++ Wire.be va 8 : List UInt8) = L at *
  have HL := Lib.hid hL
  clear hL
  generalize hn : L.length = n at *
  have HN := Lib.hid hn
  clear hn
  go_wp2
  go_ret2
  exact ⟨_, rfl, HO.out, HB5.out⟩

end Go.Proofs.YtbmphlpmipkpcaaGreat
