/- Contract: the letter of bytes (letter.Of). -/
import Derived.Test.YtellhmbebimenaaDoorLr24
import Derived.Test.YtellhmbebimenaaDoorLr25
import Derived.Test.YtellhmbebimenaaDoorLr26
import Derived.Test.YtellhmbebimenaaDoorLr29
import Derived.Test.YtellhmbebimenaaDoorLr36
import Derived.Deep.Cut

set_option linter.unusedVariables false
set_option linter.unusedSimpArgs false
namespace Go.Proofs.YtellhmbebimenaaDoor
open Go.RowKit

theorem run_rest (p : Option Addr) (n cap m : Nat) (h : m ≤ n) (hc : n ≤ cap) (W : World) : (Instr.slice 38 (.slice p n cap) (some (.int .i64 (m : Int))) (some (.int .i64 (n : Int))) (some (.int .i64 (n : Int)))).run Tryd.prog W = .ok (.slice (if n = m then p else p.map (·.add (m * 1))) (n - m) (n - m)) W := by
  have ht : Tryd.prog.underlying 38 = some (.slice (Tryd.prog.elem 38)) := by kernel_rfl
  have hz : ∀ W : World, (sizeOf (Tryd.prog.elem 38)).run Tryd.prog W = .ok 1 W := fun W => by
    rw [show Tryd.prog.elem 38 = 5 from by kernel_rfl]; simp [go_sem]
  rw [run_slice_lhm W _ _ _ _ ht _ _ _ _ _ _ (by omega) (by omega) (by omega) (by omega), hz]
  simp [sliced, Result.andThen]
theorem rest_bs {w : World} {p : Option Addr} {cap m : Nat} {b : List UInt8} (h : BS w (.slice p b.length cap) b) (hm : m ≤ b.length) : BS w (.slice (if b.length = m then p else p.map (·.add (m * 1))) (b.length - m) (b.length - m)) (b.drop m) := by
  obtain ⟨p', cap', e, h1, h2, h3⟩ := h
  injection e with e1 e2 e3
  subst e1; subst e3
  refine ⟨_, b.length - m, by rw [List.length_drop], by rw [List.length_drop]; exact Nat.le_refl _, by omega, fun hne => ?_⟩
  have hlt : m < b.length := by
    rcases Nat.lt_or_ge m b.length with h | h
    · exact h
    · exact absurd (List.drop_of_length_le h) hne
  obtain ⟨g, o, rfl, hg, hc⟩ := h3 (by intro h0; rw [h0] at hlt; simp at hlt)
  rw [if_neg (by omega)]
  refine ⟨g, o + m, ?_, hg, fun i x hx => ?_⟩
  · by_cases h0 : m = 0
    · subst h0; simp [Addr.add]
    · simp [Addr.add, h0]
  · rw [List.getElem?_drop] at hx
    have := hc (m + i) x hx
    rwa [← Nat.add_assoc] at this
theorem loadLt {w : World} {g : Nat} {cs : Array Value} {e : TypeId} (h : w.heap[g]? = some (.cells cs e (0, 0))) (hs : cs.size = 15) : (loadVar 31 ⟨g, 0, none⟩).run Tryd.prog w = .ok (.agg cs) w := by
  refine run_loadVar_row w g e 31 cs (0, 0) _ h Tryd.underlying31 rfl ?_
  rw [hs]; kernel_rfl
theorem setCells_rowP {g : Nat} {e : TypeId} : ∀ (cs pre zs : List Value) (w : World), w.heap[g]? = some (.cells (pre ++ zs).toArray e (0, 0)) → zs.length = cs.length → (w.setCells g pre.length cs).heap[g]? = some (.cells (pre ++ cs).toArray e (0, 0)) := by
  intro cs
  induction cs with
  | nil => intro pre zs w h hl; rw [List.length_eq_zero_iff.1 hl] at h; exact h
  | cons c cs ih =>
    intro pre zs w h hl
    obtain ⟨z, zs, rfl⟩ : ∃ z zs', zs = z :: zs' := by
      cases zs with
      | nil => simp at hl
      | cons z zs => exact ⟨z, zs, rfl⟩
    rw [World.setCells]
    have h1 := heap_setCell_same w g pre.length _ _ c h
    have e1 : (pre ++ z :: zs).toArray.setIfInBounds pre.length c = ((pre ++ [c]) ++ zs).toArray := by simp
    rw [e1] at h1
    have h2 := ih (pre ++ [c]) zs _ h1 (by simpa using hl)
    rw [List.length_append, List.length_singleton, List.append_assoc] at h2
    exact h2
theorem there_rowO {w : World} {g n o : Nat} {cs : List Value} {e : TypeId} (hg : w.heap[g]? = some (.cells cs.toArray e (0, 0))) (h : cs.length = o + n) : w.there g o n := fun j hj => by
  refine ⟨?_, ?_⟩
  · rw [cell_of_row _ _ _ _ _ _ hg]; simp; omega
  · exact frozen_of_row _ _ _ _ _ hg
theorem mOf_wf (b : List UInt8) : U64 (mOf b).tk ∧ I64 (mOf b).va := by
  unfold mOf
  split
  · unfold mGet
    split
    · exact ⟨u64_rNumM _, by constructor <;> simp⟩
    · split
      · exact ⟨u64_rNumM _, i64_wrapM _⟩
      · exact ⟨u64_rNumM _, by constructor <;> simp⟩
  · exact ⟨by constructor <;> simp [zMl], by constructor <;> simp [zMl]⟩
attribute [local go_sem ↓] ml_execLoad ml_execStore lt_execLoad lt_execStore

attribute [local go_sem] ml_load ml_store lt_load lt_store loL_drew okL_drew there_sc World.there_drew

set_option maxRecDepth 8000 in
set_option maxHeartbeats 4000000 in
theorem lOf_any (v : Value) (b : List UInt8) (hl : b.length ≤ 1073741824) (w : World) (hv : BS w v b) :
    Calls Tryd.prog 18 #[v] w fun e w' => e = .returned (.tuple #[.agg (lOf b).arr, .int .i64 (if okL20 b = true then 0 else 4)]) ∧ Below w.heap.size w w' := by
  have HBL := Lib.hid hl
  have HB1 := Lib.hid ((Below.refl w.heap.size w).alloc (Nat.le_refl _) (.cells #[.int .i64 0, .int .i64 0, .int .u64 0, .int .u64 0, .int .i64 0, .int .u64 0, .int .i64 0, .int .i64 0, .int .i64 0, .int .i64 0, .int .i64 0, .int .i64 0, .int .i64 0, .int .i64 0, .int .u64 0] 31))
  have HZ1 := Lib.hid (new_rowW w (.cells #[.int .i64 0, .int .i64 0, .int .u64 0, .int .u64 0, .int .i64 0, .int .u64 0, .int .i64 0, .int .i64 0, .int .i64 0, .int .i64 0, .int .i64 0, .int .i64 0, .int .i64 0, .int .i64 0, .int .u64 0] 31) _ rfl)
  have hv1 := hv.below HB1.out
  obtain ⟨p, cap, rfl, hc1, hc2, -⟩ := id hv1
  have HV1 := Lib.hid hv1
  clear hv hv1
  obtain ⟨m, hm⟩ : ∃ m, min 20 b.length = m := ⟨_, rfl⟩
  have hmn : m ≤ b.length := by omega
  have HMM := Lib.hid hm
  have HTK : Hid (b.take m = b.take 20) := Lib.hid (by rw [← hm]; by_cases h : 20 ≤ b.length; (rw [Nat.min_eq_left h]); (rw [Nat.min_eq_right (by omega), List.take_of_length_le (Nat.le_refl _), List.take_of_length_le (by omega)]))
  have HDR : Hid (b.drop m = b.drop 20) := Lib.hid (by rw [← hm]; by_cases h : 20 ≤ b.length; (rw [Nat.min_eq_left h]); (rw [Nat.min_eq_right (by omega), List.drop_of_length_le (Nat.le_refl _), List.drop_of_length_le (by omega)]))
  have HD : Hid (∀ W, BS W (.slice p b.length cap) b → BS W (.slice p m m) (b.take 20)) := Lib.hid (fun W h => by rw [← HTK.out]; exact (h.head hmn).recap (Nat.le_refl _) (by omega))
  obtain ⟨p2, hp2⟩ : ∃ p2, (if b.length = m then p else p.map (·.add (m * 1))) = p2 := ⟨_, rfl⟩
  have HRS : Hid (∀ W, BS W (.slice p b.length cap) b → BS W (.slice p2 (b.length - m) (b.length - m)) (b.drop 20)) := Lib.hid (fun W h => by rw [← HDR.out, ← hp2]; exact rest_bs h hmn)
  have hs1 := fun W => run_head3 p b.length cap m (by omega) W
  have hs2 := fun W => run_rest p b.length cap m hmn hc1 W
  rw [hp2] at hs2
  have HRL : Hid (b.drop 20 = [] ↔ b.length - m = 0) := Lib.hid (by rw [← HDR.out, List.drop_eq_nil_iff]; omega)
  have HMIN : Hid ((if (b.length : Int) < 20 then (b.length : Int) else 20) = (m : Int)) := Lib.hid (by split <;> omega)
  have HLEN := Lib.hid (show b.length ≤ 1073741824 from hl)
  have hl9 : b.length ≤ 9223372036854775807 := by omega
  have HRDD := Lib.hid (fun W h => read_any (.slice p m m) (b.take 20) (by rw [List.length_take]; omega) W h)
  have HMO := Lib.hid (fun W v h => mailOf_any v (b.drop 20) (by rw [List.length_drop]; omega) W h)
  obtain ⟨em, hem⟩ : ∃ z : Int, (if okM (b.drop 20) = true then 0 else 4) = z := ⟨_, rfl⟩
  rw [hem] at HMO
  have HEM := Lib.hid hem
  clear hem
  obtain ⟨ok, hok⟩ : ∃ q, okL20 b = q := ⟨_, rfl⟩
  have HOKD : Hid (ok = (decide (lS4 b = some []) && (if lNum b = 0 then decide (b.drop 20 = []) else okM (b.drop 20)) && (lGet b).may)) := Lib.hid (by rw [← hok]; rfl)
  have HOFD : Hid (lOf b = if ok = true then lGet b else zLt) := Lib.hid (by unfold lOf; rw [hok])
  rw [hok]
  generalize hlo : lOf b = lo at *
  obtain ⟨ev, hev⟩ : ∃ z : Int, (if ok = true then 0 else 4) = z := ⟨_, rfl⟩
  rw [hev]
  have HEV := Lib.hid hev
  clear hev hok hlo hp2 hm
  have hlt1 : rNumV (some (b.take 20)) ((2 : Nat) : Int) < 65536 := rNumV_lt _ 2
  have hlt2 : rNumV (lS1 b) ((2 : Nat) : Int) < 65536 := rNumV_lt _ 2
  have HLG : Hid (lGet b = ⟨rNumV (some (b.take 20)) 2, rNumV (lS1 b) 2, lNum b, rNumV (lS3 b) 8, (lMail b).k, (lMail b).tk, (lMail b).c, (lMail b).d, (lMail b).co, (lMail b).fl, (lMail b).dy, (lMail b).va, (lMail b).st, (lMail b).ho, (lMail b).nx⟩) := Lib.hid rfl
  have hn8 : rNumV (lS2 b) ((8 : Nat) : Int) < 18446744073709551616 := rNumV_lt _ 8
  have ha8 : rNumV (lS3 b) ((8 : Nat) : Int) < 18446744073709551616 := rNumV_lt _ 8
  have HS1 : Hid (rNumS (some (b.take 20)) 2 = lS1 b) := Lib.hid rfl
  have HS2 : Hid (rNumS (lS1 b) 2 = lS2 b) := Lib.hid rfl
  have HS3 : Hid (rNumS (lS2 b) 8 = lS3 b) := Lib.hid rfl
  have HS4 : Hid (rNumS (lS3 b) 8 = lS4 b) := Lib.hid rfl
  have HNV : Hid (rNumV (lS2 b) 8 = lNum b) := Lib.hid rfl
  have HLMD : Hid (lMail b = if lNum b = 0 then zMl else mOf (b.drop 20)) := Lib.hid rfl
  generalize lS4 b = S4 at *
  have hn8b : lNum b < 18446744073709551616 := hn8
  have ha8b : rNumV (lS3 b) 8 < 18446744073709551616 := ha8
  have hlt1b : rNumV (some (b.take 20)) 2 < 65536 := hlt1
  have hlt2b : rNumV (lS1 b) 2 < 65536 := hlt2
  clear hlt1 hlt2 hn8 ha8
  obtain ⟨F, hF⟩ : ∃ z : Nat, rNumV (some (b.take 20)) 2 = z := ⟨_, rfl⟩
  obtain ⟨T, hT⟩ : ∃ z : Nat, rNumV (lS1 b) 2 = z := ⟨_, rfl⟩
  obtain ⟨A, hA⟩ : ∃ z : Nat, rNumV (lS3 b) 8 = z := ⟨_, rfl⟩
  have HF := Lib.hid hF; have HT := Lib.hid hT; have HA := Lib.hid hA
  rw [hF] at HLG hlt1b; rw [hT] at HLG hlt2b; rw [hA] at HLG ha8b
  clear hF hT hA
  generalize lS1 b = S1 at *
  generalize lS2 b = S2 at *
  generalize lS3 b = S3 at *
  generalize lNum b = N at *
  generalize lGet b = G at *
  have hwF : IntKind.i64.wrap (F : Int) = (F : Int) := by rw [IntKind.wrap_i64]; omega
  have hwF2 : wrap64 (F : Int) = (F : Int) := by unfold wrap64; omega
  have hwT : IntKind.i64.wrap (T : Int) = (T : Int) := by rw [IntKind.wrap_i64]; omega
  have hwT2 : wrap64 (T : Int) = (T : Int) := by unfold wrap64; omega
  go_enter Tryd.func18, Tryd.ntmps18
  go_upto_region 2 with fail
  rw [HMIN.out]
  generalize w.alloc (.cells #[.int .i64 0, .int .i64 0, .int .u64 0, .int .u64 0, .int .i64 0, .int .u64 0, .int .i64 0, .int .i64 0, .int .i64 0, .int .i64 0, .int .i64 0, .int .i64 0, .int .i64 0, .int .i64 0, .int .u64 0] 31) = w1 at *
  refine wp_region_G (C := fun _ => True) (s0 := 4) (by kernel_rfl) ?_
  have hHeld : True := trivial
  have hbn := (Below.refl w1.heap.size w1).drew
  have HZ1 := Lib.hid ((hbn.block _ (block_lt HZ1.out)).trans HZ1.out)
  have HV1 := Lib.hid (HV1.out.below hbn)
  have HB1 := Lib.hid (HB1.out.trans (hbn.mono HB1.out.size))
  clear hbn
  generalize w1.drew = wd at *
  refine wpAnyG_takeU (i := 0) (oi := { dst := some 13, op := Op.move (Operand.tmp 0), type := 38, pos := "letter.go:60", after := #[], guard := none }) (v := ?_) rfl (by kernel_rfl) (by kernel_rfl) (by kernel_rfl) (by decide) (fun _ _ _ h => h) (Or.inl ⟨by rfl, ?_⟩) (.inl (by assumption)) ?_
  rotate_left
  · intro w hSw; go_simp; try with_reducible rfl
  try simp only [Act.put, List.setIfInBounds_toArray, List.set_cons_zero, List.set_cons_succ]
  refine wpAnyG_takeU (i := 1) (oi := { dst := some 14, op := Op.move (Operand.tmp 4), type := 3, pos := "letter.go:60", after := #[], guard := none }) (v := ?_) rfl (by kernel_rfl) (by kernel_rfl) (by kernel_rfl) (by decide) (fun _ _ _ h => h) (Or.inl ⟨by rfl, ?_⟩) (.inl (by assumption)) ?_
  rotate_left
  · intro w hSw; go_simp; try with_reducible rfl
  try simp only [Act.put, List.setIfInBounds_toArray, List.set_cons_zero, List.set_cons_succ]
  refine wpAnyG_takeU (i := 2) (oi := { dst := some 15, op := Op.move (Operand.tmp 4), type := 3, pos := "letter.go:60", after := #[], guard := none }) (v := ?_) rfl (by kernel_rfl) (by kernel_rfl) (by kernel_rfl) (by decide) (fun _ _ _ h => h) (Or.inl ⟨by rfl, ?_⟩) (.inl (by assumption)) ?_
  rotate_left
  · intro w hSw; go_simp; try with_reducible rfl
  try simp only [Act.put, List.setIfInBounds_toArray, List.set_cons_zero, List.set_cons_succ]
  refine wpAnyG_takeU (i := 3) (oi := { dst := some 16, op := Op.slice 38 (Operand.tmp 13) none (some (Operand.tmp 14)) (some (Operand.tmp 15)), type := 38, pos := "letter.go:60", after := #[{ on := 0, ground := Ground.data }, { on := 1, ground := Ground.data }, { on := 2, ground := Ground.data }], guard := none }) (v := ?_) rfl (by kernel_rfl) (by kernel_rfl) (by kernel_rfl) (by decide) (fun _ _ _ h => h) (Or.inl ⟨by rfl, ?_⟩) (.inl (by assumption)) ?_
  rotate_left
  · intro w hSw; go_simp; try with_reducible rfl
  try simp only [Act.put, List.setIfInBounds_toArray, List.set_cons_zero, List.set_cons_succ]
  refine wpAnyG_takeU (i := 5) (oi := { dst := some 18, op := Op.move (Operand.tmp 0), type := 38, pos := "letter.go:60", after := #[], guard := none }) (v := ?_) rfl (by kernel_rfl) (by kernel_rfl) (by kernel_rfl) (by decide) (fun _ _ _ h => h) (Or.inl ⟨by rfl, ?_⟩) (.inl (by assumption)) ?_
  rotate_left
  · intro w hSw; go_simp; try with_reducible rfl
  try simp only [Act.put, List.setIfInBounds_toArray, List.set_cons_zero, List.set_cons_succ]
  refine wpAnyG_takeU (i := 6) (oi := { dst := some 19, op := Op.move (Operand.tmp 4), type := 3, pos := "letter.go:60", after := #[], guard := none }) (v := ?_) rfl (by kernel_rfl) (by kernel_rfl) (by kernel_rfl) (by decide) (fun _ _ _ h => h) (Or.inl ⟨by rfl, ?_⟩) (.inl (by assumption)) ?_
  rotate_left
  · intro w hSw; go_simp; try with_reducible rfl
  try simp only [Act.put, List.setIfInBounds_toArray, List.set_cons_zero, List.set_cons_succ]
  refine wpAnyG_takeU (i := 7) (oi := { dst := some 20, op := Op.move (Operand.tmp 0), type := 38, pos := "letter.go:60", after := #[], guard := none }) (v := ?_) rfl (by kernel_rfl) (by kernel_rfl) (by kernel_rfl) (by decide) (fun _ _ _ h => h) (Or.inl ⟨by rfl, ?_⟩) (.inl (by assumption)) ?_
  rotate_left
  · intro w hSw; go_simp; try with_reducible rfl
  try simp only [Act.put, List.setIfInBounds_toArray, List.set_cons_zero, List.set_cons_succ]
  refine wpAnyG_takeU (i := 8) (oi := { dst := some 21, op := Op.call { callee := Callee.builtin Builtin.len, args := #[Operand.tmp 20], argTypes := #[38] }, type := 3, pos := "letter.go:60", after := #[{ on := 7, ground := Ground.data }], guard := none }) (v := ?_) rfl (by kernel_rfl) (by kernel_rfl) (by kernel_rfl) (by decide) (fun _ _ _ h => h) (Or.inl ⟨by rfl, ?_⟩) (.inl (by assumption)) ?_
  rotate_left
  · intro w hSw; go_simp; try with_reducible rfl
  try simp only [Act.put, List.setIfInBounds_toArray, List.set_cons_zero, List.set_cons_succ]
  refine wpAnyG_takeU (i := 9) (oi := { dst := some 22, op := Op.move (Operand.tmp 0), type := 38, pos := "letter.go:60", after := #[], guard := none }) (v := ?_) rfl (by kernel_rfl) (by kernel_rfl) (by kernel_rfl) (by decide) (fun _ _ _ h => h) (Or.inl ⟨by rfl, ?_⟩) (.inl (by assumption)) ?_
  rotate_left
  · intro w hSw; go_simp; try with_reducible rfl
  try simp only [Act.put, List.setIfInBounds_toArray, List.set_cons_zero, List.set_cons_succ]
  refine wpAnyG_takeU (i := 10) (oi := { dst := some 23, op := Op.call { callee := Callee.builtin Builtin.len, args := #[Operand.tmp 22], argTypes := #[38] }, type := 3, pos := "letter.go:60", after := #[{ on := 9, ground := Ground.data }], guard := none }) (v := ?_) rfl (by kernel_rfl) (by kernel_rfl) (by kernel_rfl) (by decide) (fun _ _ _ h => h) (Or.inl ⟨by rfl, ?_⟩) (.inl (by assumption)) ?_
  rotate_left
  · intro w hSw; go_simp; try with_reducible rfl
  try simp only [Act.put, List.setIfInBounds_toArray, List.set_cons_zero, List.set_cons_succ]
  refine wpAnyG_takeU (i := 11) (oi := { dst := some 24, op := Op.slice 38 (Operand.tmp 18) (some (Operand.tmp 19)) (some (Operand.tmp 21)) (some (Operand.tmp 23)), type := 38, pos := "letter.go:60", after := #[{ on := 5, ground := Ground.data }, { on := 6, ground := Ground.data }, { on := 8, ground := Ground.data }, { on := 10, ground := Ground.data }], guard := none }) (v := ?_) rfl (by kernel_rfl) (by kernel_rfl) (by kernel_rfl) (by decide) (fun _ _ _ h => h) (Or.inl ⟨by rfl, ?_⟩) (.inl (by assumption)) ?_
  rotate_left
  · intro w hSw; go_simp; try with_reducible rfl
  try simp only [Act.put, List.setIfInBounds_toArray, List.set_cons_zero, List.set_cons_succ]
  refine wpAnyG_one (i := 4) (o := { dst := some 17, op := Op.call { callee := Callee.value (Operand.func 53), args := #[Operand.tmp 16], argTypes := #[38] }, type := 94, pos := "letter.go:60", after := #[{ on := 3, ground := Ground.data }], guard := none }) (by kernel_rfl) rfl (fun K hK => ?_)
  go_simp
  go_at_call 53
  refine (HRDD.out _ (HD.out _ HV1.out)).mono ?_
  rintro e w2 ⟨br, rfl, hi, hb2⟩
  have HI := Lib.hid hi
  have HB2 := Lib.hid hb2
  have HZ2 := Lib.hid ((hb2.block _ (block_lt HZ1.out)).trans HZ1.out)
  have HV2 := Lib.hid (HV1.out.below hb2)
  clear hi hb2
  refine hK.out _ _ (.inr rfl) ?_
  clear hK K
  try simp only [Act.put, List.setIfInBounds_toArray, List.set_cons_zero, List.set_cons_succ]
  refine wpAnyG_takeU (i := 12) (oi := { dst := some 5, op := Op.assign (Operand.tmp 17), type := 94, pos := "letter.go:60", after := #[{ on := 4, ground := Ground.data }, { on := 4, ground := Ground.chain }, { on := 0, ground := Ground.phase }, { on := 1, ground := Ground.phase }, { on := 2, ground := Ground.phase }, { on := 3, ground := Ground.phase }, { on := 4, ground := Ground.phase }, { on := 5, ground := Ground.textOnly Departure.lateStores }, { on := 6, ground := Ground.textOnly Departure.lateStores }, { on := 7, ground := Ground.textOnly Departure.lateStores }, { on := 8, ground := Ground.textOnly Departure.lateStoresUnsure }, { on := 9, ground := Ground.textOnly Departure.lateStores }, { on := 10, ground := Ground.textOnly Departure.lateStoresUnsure }, { on := 11, ground := Ground.textOnly Departure.lateStoresUnsure }], guard := none }) (v := ?_) rfl (by kernel_rfl) (by kernel_rfl) (by kernel_rfl) (by decide) (fun _ _ _ h => h) (Or.inl ⟨by rfl, ?_⟩) (.inr rfl) ?_
  rotate_left
  · intro w hSw; go_simp; try with_reducible rfl
  try simp only [Act.put, List.setIfInBounds_toArray, List.set_cons_zero, List.set_cons_succ]
  refine wpAnyG_takeU (i := 13) (oi := { dst := some 6, op := Op.assign (Operand.tmp 24), type := 38, pos := "letter.go:60", after := #[{ on := 11, ground := Ground.data }, { on := 12, ground := Ground.chain }, { on := 0, ground := Ground.phase }, { on := 1, ground := Ground.phase }, { on := 2, ground := Ground.phase }, { on := 3, ground := Ground.phase }, { on := 4, ground := Ground.phase }, { on := 5, ground := Ground.phase }, { on := 6, ground := Ground.phase }, { on := 7, ground := Ground.phase }, { on := 8, ground := Ground.phase }, { on := 9, ground := Ground.phase }, { on := 10, ground := Ground.phase }, { on := 11, ground := Ground.phase }, { on := 12, ground := Ground.phase }], guard := none }) (v := ?_) rfl (by kernel_rfl) (by kernel_rfl) (by kernel_rfl) (by decide) (fun _ _ _ h => h) (Or.inl ⟨by rfl, ?_⟩) (.inr rfl) ?_
  rotate_left
  · intro w hSw; go_simp; try with_reducible rfl
  try simp only [Act.put, List.setIfInBounds_toArray, List.set_cons_zero, List.set_cons_succ]
  refine wpAnyG_done (by kernel_rfl) ?_ _
  clear hHeld
  go_upto_region 4 with fail
  have HI3 := Lib.hid (HI.out.below ((Below.refl w2.heap.size w2).alloc (Nat.le_refl _) (.cells #[.int .i64 0, .int .i64 0, .int .u64 0, .int .u64 0, .int .i64 0, .int .u64 0, .int .i64 0, .int .i64 0, .int .i64 0, .int .i64 0, .int .i64 0, .int .i64 0, .int .i64 0, .int .i64 0, .int .u64 0] 31)))
  have HR3 := Lib.hid (new_rowW w2 (.cells #[.int .i64 0, .int .i64 0, .int .u64 0, .int .u64 0, .int .i64 0, .int .u64 0, .int .i64 0, .int .i64 0, .int .i64 0, .int .i64 0, .int .i64 0, .int .i64 0, .int .i64 0, .int .i64 0, .int .u64 0] 31) _ rfl)
  have HZ3 := Lib.hid (row_allocW HZ2.out (.cells #[.int .i64 0, .int .i64 0, .int .u64 0, .int .u64 0, .int .i64 0, .int .u64 0, .int .i64 0, .int .i64 0, .int .i64 0, .int .i64 0, .int .i64 0, .int .i64 0, .int .i64 0, .int .i64 0, .int .u64 0] 31))
  have HV3 := Lib.hid (HV2.out.alloc (.cells #[.int .i64 0, .int .i64 0, .int .u64 0, .int .u64 0, .int .i64 0, .int .u64 0, .int .i64 0, .int .i64 0, .int .i64 0, .int .i64 0, .int .i64 0, .int .i64 0, .int .i64 0, .int .i64 0, .int .u64 0] 31))
  have HB3 := Lib.hid (HB2.out.alloc HB2.out.size (.cells #[.int .i64 0, .int .i64 0, .int .u64 0, .int .u64 0, .int .i64 0, .int .u64 0, .int .i64 0, .int .i64 0, .int .i64 0, .int .i64 0, .int .i64 0, .int .i64 0, .int .i64 0, .int .i64 0, .int .u64 0] 31))
  have hgl : wd.heap.size ≤ w2.heap.size := HB2.out.size
  have hzl := block_lt HZ1.out
  generalize w2.alloc (.cells #[.int .i64 0, .int .i64 0, .int .u64 0, .int .u64 0, .int .i64 0, .int .u64 0, .int .i64 0, .int .i64 0, .int .i64 0, .int .i64 0, .int .i64 0, .int .i64 0, .int .i64 0, .int .i64 0, .int .u64 0] 31) = w3 at *
  generalize hgg : w2.heap.size = g at *
  clear hgg
  have HI := Lib.hid HI3.out; have HR := Lib.hid HR3.out; have HZ := Lib.hid HZ3.out
  have HB := Lib.hid HB3.out
  clear HV3 HV2
  have hzg : w.heap.size ≠ g := by omega
  go_wp2_with fail
  refine (rnumber_any wd.heap.size br _ 2 w3 HI.out).mono ?_
  rintro e w4 ⟨rfl, hst⟩
  rw [HF.out]
  rw [HS1.out] at hst
  have HR := Lib.hid (hst.2.2.row HR.out (by decide))
  have HZ := Lib.hid (hst.2.2.row HZ.out (by decide))
  have HB := Lib.hid (HB.out.trans hst.2.1)
  have HI := Lib.hid hst.1
  clear hst
  go_wp2_with fail
  refine (rnumber_any wd.heap.size br _ 2 w4 HI.out).mono ?_
  rintro e w5 ⟨rfl, hst⟩
  rw [HT.out]
  rw [HS2.out] at hst
  have HR := Lib.hid (hst.2.2.row HR.out (by decide))
  have HZ := Lib.hid (hst.2.2.row HZ.out (by decide))
  have HB := Lib.hid (HB.out.trans hst.2.1)
  have HI := Lib.hid hst.1
  clear hst
  have hc5 := fun j => cell_of_row w5 g j _ _ _ HR.out
  have hf5 := fun j => frozen_of_row w5 g j _ _ HR.out
  go_upto_region 5 with fail
  clear hc5 hf5
  have HR1 := Lib.hid (heap_setCell_same _ _ 0 _ _ (.int .i64 (F : Int)) HR.out)
  have HR2 := Lib.hid (heap_setCell_same _ _ 1 _ _ (.int .i64 (T : Int)) HR1.out)
  have HI := Lib.hid ((HI.out.set HR.out (by decide) 0 (.int .i64 (F : Int))).set HR1.out (by decide) 1 (.int .i64 (T : Int)))
  have HZ := Lib.hid ((heap_setCell_other _ ⟨g, 1, none⟩ _ (.int .i64 (T : Int)) hzg).trans ((heap_setCell_other _ ⟨g, 0, none⟩ _ (.int .i64 (F : Int)) hzg).trans HZ.out))
  have HB := Lib.hid ((HB.out.setCell (p := ⟨g, 0, none⟩) hgl (.int .i64 (F : Int))).setCell (p := ⟨g, 1, none⟩) hgl (.int .i64 (T : Int)))
  have HR := Lib.hid (show ((w5.setCell ⟨g, 0, none⟩ (.int .i64 (F : Int))).setCell ⟨g, 1, none⟩ (.int .i64 (T : Int))).heap[g]? = some (.cells #[.int .i64 (F : Int), .int .i64 (T : Int), .int .u64 0, .int .u64 0, .int .i64 0, .int .u64 0, .int .i64 0, .int .i64 0, .int .i64 0, .int .i64 0, .int .i64 0, .int .i64 0, .int .i64 0, .int .i64 0, .int .u64 0] 31 (0, 0)) from HR2.out)
  clear HR1 HR2
  generalize ((w5.setCell ⟨g, 0, none⟩ (.int .i64 (F : Int))).setCell ⟨g, 1, none⟩ (.int .i64 (T : Int))) = w6 at *
  go_wp2_with fail
  refine (rnumber_any wd.heap.size br _ 8 w6 HI.out).mono ?_
  rintro e w7 ⟨rfl, hst⟩
  rw [HNV.out]
  rw [HS3.out] at hst
  have HR := Lib.hid (hst.2.2.row HR.out (by decide))
  have HZ := Lib.hid (hst.2.2.row HZ.out (by decide))
  have HB := Lib.hid (HB.out.trans hst.2.1)
  have HI := Lib.hid hst.1
  clear hst
  go_wp2_with fail
  refine (rnumber_any wd.heap.size br _ 8 w7 HI.out).mono ?_
  rintro e w8 ⟨rfl, hst⟩
  rw [HA.out]
  rw [HS4.out] at hst
  have HR := Lib.hid (hst.2.2.row HR.out (by decide))
  have HZ := Lib.hid (hst.2.2.row HZ.out (by decide))
  have HB := Lib.hid (HB.out.trans hst.2.1)
  have HI := Lib.hid hst.1
  clear hst
  have hc5 := fun j => cell_of_row w8 g j _ _ _ HR.out
  have hf5 := fun j => frozen_of_row w8 g j _ _ HR.out
  go_upto_region 6 with fail
  clear hc5 hf5
  have HR1 := Lib.hid (heap_setCell_same _ _ 2 _ _ (.int .u64 (N : Int)) HR.out)
  have HR2 := Lib.hid (heap_setCell_same _ _ 3 _ _ (.int .u64 (A : Int)) HR1.out)
  have HI := Lib.hid ((HI.out.set HR.out (by decide) 2 (.int .u64 (N : Int))).set HR1.out (by decide) 3 (.int .u64 (A : Int)))
  have HZ := Lib.hid ((heap_setCell_other _ ⟨g, 3, none⟩ _ (.int .u64 (A : Int)) hzg).trans ((heap_setCell_other _ ⟨g, 2, none⟩ _ (.int .u64 (N : Int)) hzg).trans HZ.out))
  have HB := Lib.hid ((HB.out.setCell (p := ⟨g, 2, none⟩) hgl (.int .u64 (N : Int))).setCell (p := ⟨g, 3, none⟩) hgl (.int .u64 (A : Int)))
  have HR := Lib.hid (show ((w8.setCell ⟨g, 2, none⟩ (.int .u64 (N : Int))).setCell ⟨g, 3, none⟩ (.int .u64 (A : Int))).heap[g]? = some (.cells #[.int .i64 (F : Int), .int .i64 (T : Int), .int .u64 (N : Int), .int .u64 (A : Int), .int .i64 0, .int .u64 0, .int .i64 0, .int .i64 0, .int .i64 0, .int .i64 0, .int .i64 0, .int .i64 0, .int .i64 0, .int .i64 0, .int .u64 0] 31 (0, 0)) from HR2.out)
  clear HR1 HR2
  generalize ((w8.setCell ⟨g, 2, none⟩ (.int .u64 (N : Int))).setCell ⟨g, 3, none⟩ (.int .u64 (A : Int))) = w9 at *
  have HEN := Lib.hid (rend_any wd.heap.size br S4 w9 HI.out)
  obtain ⟨M, hM⟩ : ∃ z, lMail b = z := ⟨_, rfl⟩
  rw [hM] at HLMD HLG
  clear hM
  by_cases hq : S4 = some []
  · rw [if_pos hq] at HEN
    have HQ := Lib.hid hq
    clear hq
    by_cases h0 : N = 0
    · have hn0 : ((N : Int) == 0) = true := by rw [h0]; rfl
      have hn1 : ((N : Int) != 0) = false := by rw [h0]; rfl
      rw [if_pos h0] at HLMD
      rw [if_pos h0] at HOKD
      clear h0
      by_cases hr : b.length - m = 0
      · have HCND := Lib.hid (HRL.out.2 hr)
        generalize b.length - m = rl at *
        subst hr
        go_wp2_with fail
        refine HEN.out.mono ?_
        rintro e w10 ⟨rfl, nd, rfl⟩
        have hbn := below_drewN w9 nd
        have HB := Lib.hid (HB.out.trans (hbn.mono HB.out.size))
        have HR := Lib.hid ((hbn.block _ (block_lt HR.out)).trans HR.out)
        have HZ := Lib.hid ((hbn.block _ (block_lt HZ.out)).trans HZ.out)
        clear hbn
        generalize hw10 : w9.drewN nd = w10 at *
        clear hw10
        have hcg := fun j => cell_of_row w10 g j _ _ _ HR.out
        go_upto_region 13 with fail
        clear hcg
        obtain ⟨mb, hmb⟩ : ∃ q, Ltr.mayB (F : Int) (T : Int) (N : Int) (A : Int) 0 0 0 0 0 0 0 0 0 0 0 = q := ⟨_, rfl⟩
        have HMB := Lib.hid hmb
        have HMY := Lib.hid (fun W => lmay_any (F : Int) (T : Int) (N : Int) (A : Int) 0 0 0 0 0 0 0 0 0 0 0 ⟨by decide, by decide⟩ ⟨by decide, by decide⟩ ⟨by omega, by omega⟩ ⟨by omega, by omega⟩ W)
        rw [hmb] at HMY
        have HGM : Hid (G.may = mb) := Lib.hid (by rw [HLG.out, HLMD.out]; exact hmb)
        clear hmb
        obtain ⟨f1, f2⟩ := row_loT 15 HR.out rfl rfl
        go_wp2_with fail
        clear f1 f2
        refine (HMY.out _).mono ?_
        rintro e w11 ⟨rfl, hbn⟩
        have HB := Lib.hid (HB.out.trans (hbn.mono HB.out.size))
        have HR := Lib.hid ((hbn.block _ (block_lt HR.out)).trans HR.out)
        have HZ := Lib.hid ((hbn.block _ (block_lt HZ.out)).trans HZ.out)
        clear hbn
        cases mb
        · have HOKF : Hid (ok = false) := Lib.hid (by rw [HOKD.out]; rw [HGM.out]; simp)
          have th := there_rowT (n := 15) HZ.out rfl
          have h1n : ([.int .i64 0, .int .i64 0, .int .u64 0, .int .u64 0, .int .i64 0, .int .u64 0, .int .i64 0, .int .i64 0, .int .i64 0, .int .i64 0, .int .i64 0, .int .i64 0, .int .i64 0, .int .i64 0, .int .u64 0] : List Value).length = 15 := rfl
          have h1c : ([.int .i64 0, .int .i64 0, .int .u64 0, .int .u64 0, .int .i64 0, .int .u64 0, .int .i64 0, .int .i64 0, .int .i64 0, .int .i64 0, .int .i64 0, .int .i64 0, .int .i64 0, .int .i64 0, .int .u64 0] : List Value).all (·.oneCell') = true := rfl
          go_wp2_with fail
          have hr6 := setCells_rowT (g := w.heap.size) (cs := [.int .i64 0, .int .i64 0, .int .u64 0, .int .u64 0, .int .i64 0, .int .u64 0, .int .i64 0, .int .i64 0, .int .i64 0, .int .i64 0, .int .i64 0, .int .i64 0, .int .i64 0, .int .i64 0, .int .u64 0]) HZ.out rfl
          (try simp only [Exit.inBlock, Exit.then])
          refine bodyPost_ret (results_cellT2 rfl _ _ w.heap.size rfl (loadLt hr6 rfl)) rfl ?_
          have e0 : lo = zLt := by rw [HOFD.out, if_neg (by rw [HOKF.out]; simp)]
          obtain rfl : ev = 4 := by rw [← HEV.out]; exact if_neg (by rw [HOKF.out]; simp)
          rw [e0]
          exact ⟨rfl, Only.below (HB1.out.trans (HB.out.mono HB1.out.size)) (Nat.le_refl _) (HB1.out.trans (HB.out.mono HB1.out.size)).size ((Only.refl w.heap.size _).setCells 0 _)⟩
        · have HOKT : Hid (ok = true) := Lib.hid (by rw [HOKD.out, HGM.out]; simp [HQ.out, HCND.out])
          obtain ⟨f1, f2⟩ := row_loT 15 HR.out rfl rfl
          have th := there_rowT (n := 15) HZ.out rfl
          have h1n : ([.int .i64 (F : Int), .int .i64 (T : Int), .int .u64 (N : Int), .int .u64 (A : Int), .int .i64 0, .int .u64 0, .int .i64 0, .int .i64 0, .int .i64 0, .int .i64 0, .int .i64 0, .int .i64 0, .int .i64 0, .int .i64 0, .int .u64 0] : List Value).length = 15 := rfl
          have h1c : ([.int .i64 (F : Int), .int .i64 (T : Int), .int .u64 (N : Int), .int .u64 (A : Int), .int .i64 0, .int .u64 0, .int .i64 0, .int .i64 0, .int .i64 0, .int .i64 0, .int .i64 0, .int .i64 0, .int .i64 0, .int .i64 0, .int .u64 0] : List Value).all (·.oneCell') = true := rfl
          go_wp2_with fail
          have hr6 := setCells_rowT (g := w.heap.size) (cs := [.int .i64 (F : Int), .int .i64 (T : Int), .int .u64 (N : Int), .int .u64 (A : Int), .int .i64 0, .int .u64 0, .int .i64 0, .int .i64 0, .int .i64 0, .int .i64 0, .int .i64 0, .int .i64 0, .int .i64 0, .int .i64 0, .int .u64 0]) HZ.out rfl
          (try simp only [Exit.inBlock, Exit.then])
          refine bodyPost_ret (results_cellT2 rfl _ _ w.heap.size rfl (loadLt hr6 rfl)) rfl ?_
          have e0 : lo = ⟨(F : Int), (T : Int), (N : Int), (A : Int), 0, 0, 0, 0, 0, 0, 0, 0, 0, 0, 0⟩ := by rw [HOFD.out, if_pos HOKT.out, HLG.out, HLMD.out] <;> rfl
          obtain rfl : ev = 0 := by rw [← HEV.out]; exact if_pos HOKT.out
          rw [e0]
          exact ⟨rfl, Only.below (HB1.out.trans (HB.out.mono HB1.out.size)) (Nat.le_refl _) (HB1.out.trans (HB.out.mono HB1.out.size)).size ((Only.refl w.heap.size _).setCells 0 _)⟩
      · have HCND : Hid (¬ b.drop 20 = []) := Lib.hid (fun h => hr (HRL.out.1 h))
        generalize b.length - m = rl at *
        have hr1 : decide ((0 : Int) < (rl : Int)) = true := by rw [decide_eq_true_eq]; omega
        have hr2 : 0 < rl := by omega
        clear hr
        go_wp2_with fail
        refine HEN.out.mono ?_
        rintro e w10 ⟨rfl, nd, rfl⟩
        have hbn := below_drewN w9 nd
        have HB := Lib.hid (HB.out.trans (hbn.mono HB.out.size))
        have HR := Lib.hid ((hbn.block _ (block_lt HR.out)).trans HR.out)
        have HZ := Lib.hid ((hbn.block _ (block_lt HZ.out)).trans HZ.out)
        clear hbn
        generalize hw10 : w9.drewN nd = w10 at *
        clear hw10
        have hcg := fun j => cell_of_row w10 g j _ _ _ HR.out
        have HOKF : Hid (ok = false) := Lib.hid (by rw [HOKD.out]; rw [decide_eq_false HCND.out]; simp)
        have th := there_rowT (n := 15) HZ.out rfl
        have h1n : ([.int .i64 0, .int .i64 0, .int .u64 0, .int .u64 0, .int .i64 0, .int .u64 0, .int .i64 0, .int .i64 0, .int .i64 0, .int .i64 0, .int .i64 0, .int .i64 0, .int .i64 0, .int .i64 0, .int .u64 0] : List Value).length = 15 := rfl
        have h1c : ([.int .i64 0, .int .i64 0, .int .u64 0, .int .u64 0, .int .i64 0, .int .u64 0, .int .i64 0, .int .i64 0, .int .i64 0, .int .i64 0, .int .i64 0, .int .i64 0, .int .i64 0, .int .i64 0, .int .u64 0] : List Value).all (·.oneCell') = true := rfl
        go_wp2_with fail
        have hr6 := setCells_rowT (g := w.heap.size) (cs := [.int .i64 0, .int .i64 0, .int .u64 0, .int .u64 0, .int .i64 0, .int .u64 0, .int .i64 0, .int .i64 0, .int .i64 0, .int .i64 0, .int .i64 0, .int .i64 0, .int .i64 0, .int .i64 0, .int .u64 0]) HZ.out rfl
        (try simp only [Exit.inBlock, Exit.then])
        refine bodyPost_ret (results_cellT2 rfl _ _ w.heap.size rfl (loadLt hr6 rfl)) rfl ?_
        have e0 : lo = zLt := by rw [HOFD.out, if_neg (by rw [HOKF.out]; simp)]
        obtain rfl : ev = 4 := by rw [← HEV.out]; exact if_neg (by rw [HOKF.out]; simp)
        rw [e0]
        exact ⟨rfl, Only.below (HB1.out.trans (HB.out.mono HB1.out.size)) (Nat.le_refl _) (HB1.out.trans (HB.out.mono HB1.out.size)).size ((Only.refl w.heap.size _).setCells 0 _)⟩
    · have hn0 : ((N : Int) == 0) = false := by rw [beq_eq_false_iff_ne]; omega
      have hn1 : ((N : Int) != 0) = true := by rw [bne_iff_ne]; omega
      rw [if_neg h0] at HLMD
      rw [if_neg h0] at HOKD
      clear h0
      generalize b.length - m = rl at *
      go_wp2_with fail
      refine HEN.out.mono ?_
      rintro e w10 ⟨rfl, nd, rfl⟩
      have hbn := below_drewN w9 nd
      have HB := Lib.hid (HB.out.trans (hbn.mono HB.out.size))
      have HR := Lib.hid ((hbn.block _ (block_lt HR.out)).trans HR.out)
      have HZ := Lib.hid ((hbn.block _ (block_lt HZ.out)).trans HZ.out)
      clear hbn
      generalize hw10 : w9.drewN nd = w10 at *
      clear hw10
      have hcg := fun j => cell_of_row w10 g j _ _ _ HR.out
      go_wp2_with fail
      clear hcg
      refine (HMO.out _ _ (HRS.out _ (HV1.out.below HB.out))).mono ?_
      rintro e w11 ⟨rfl, hbn⟩
      have HB := Lib.hid (HB.out.trans (hbn.mono HB.out.size))
      have HR := Lib.hid ((hbn.block _ (block_lt HR.out)).trans HR.out)
      have HZ := Lib.hid ((hbn.block _ (block_lt HZ.out)).trans HZ.out)
      clear hbn
      rw [← HLMD.out]
      rw [show M.arr = #[.int .i64 M.k, .int .u64 M.tk, .int .i64 M.c, .int .i64 M.d, .int .i64 M.co, .int .i64 M.fl, .int .i64 M.dy, .int .i64 M.va, .int .i64 M.st, .int .i64 M.ho, .int .u64 M.nx] from rfl]
      obtain ⟨om, hom⟩ : ∃ q, okM (b.drop 20) = q := ⟨_, rfl⟩
      have HOM := Lib.hid hom
      have HWFM := Lib.hid (mOf_wf (b.drop 20))
      clear hom
      have th8 := there_newT (w := w11) (zs := [.int .i64 0, .int .u64 0, .int .i64 0, .int .i64 0, .int .i64 0, .int .i64 0, .int .i64 0, .int .i64 0, .int .i64 0, .int .i64 0, .int .u64 0]) (e := 29) (n := 11) rfl
      have h8n : ([.int .i64 M.k, .int .u64 M.tk, .int .i64 M.c, .int .i64 M.d, .int .i64 M.co, .int .i64 M.fl, .int .i64 M.dy, .int .i64 M.va, .int .i64 M.st, .int .i64 M.ho, .int .u64 M.nx] : List Value).length = 11 := rfl
      have h8c : ([.int .i64 M.k, .int .u64 M.tk, .int .i64 M.c, .int .i64 M.d, .int .i64 M.co, .int .i64 M.fl, .int .i64 M.dy, .int .i64 M.va, .int .i64 M.st, .int .i64 M.ho, .int .u64 M.nx] : List Value).all (·.oneCell') = true := rfl
      go_upto_region 10 with fail
      have HP := Lib.hid (putRec (W := w11) (e := 29) (zs := [.int .i64 0, .int .u64 0, .int .i64 0, .int .i64 0, .int .i64 0, .int .i64 0, .int .i64 0, .int .i64 0, .int .i64 0, .int .i64 0, .int .u64 0]) (cs := [.int .i64 M.k, .int .u64 M.tk, .int .i64 M.c, .int .i64 M.d, .int .i64 M.co, .int .i64 M.fl, .int .i64 M.dy, .int .i64 M.va, .int .i64 M.st, .int .i64 M.ho, .int .u64 M.nx]) rfl)
      have HR := Lib.hid ((HP.out.2.block _ (block_lt HR.out)).trans HR.out)
      have HZ := Lib.hid ((HP.out.2.block _ (block_lt HZ.out)).trans HZ.out)
      have HB := Lib.hid (HB.out.trans (HP.out.2.mono HB.out.size))
      have HR8 := Lib.hid HP.out.1
      clear HP th8 h8n h8c
      generalize (w11.alloc (.cells #[.int .i64 0, .int .u64 0, .int .i64 0, .int .i64 0, .int .i64 0, .int .i64 0, .int .i64 0, .int .i64 0, .int .i64 0, .int .i64 0, .int .u64 0] 29)).setCells w11.heap.size 0 [.int .i64 M.k, .int .u64 M.tk, .int .i64 M.c, .int .i64 M.d, .int .i64 M.co, .int .i64 M.fl, .int .i64 M.dy, .int .i64 M.va, .int .i64 M.st, .int .i64 M.ho, .int .u64 M.nx] = w12 at *
      generalize w11.heap.size = g8 at *
      cases om
      · obtain rfl : em = 4 := by rw [← HEM.out, HOM.out]; rfl
        have HOKF : Hid (ok = false) := Lib.hid (by rw [HOKD.out]; rw [HOM.out]; simp)
        have th := there_rowT (n := 15) HZ.out rfl
        have h1n : ([.int .i64 0, .int .i64 0, .int .u64 0, .int .u64 0, .int .i64 0, .int .u64 0, .int .i64 0, .int .i64 0, .int .i64 0, .int .i64 0, .int .i64 0, .int .i64 0, .int .i64 0, .int .i64 0, .int .u64 0] : List Value).length = 15 := rfl
        have h1c : ([.int .i64 0, .int .i64 0, .int .u64 0, .int .u64 0, .int .i64 0, .int .u64 0, .int .i64 0, .int .i64 0, .int .i64 0, .int .i64 0, .int .i64 0, .int .i64 0, .int .i64 0, .int .i64 0, .int .u64 0] : List Value).all (·.oneCell') = true := rfl
        go_wp2_with fail
        have hr6 := setCells_rowT (g := w.heap.size) (cs := [.int .i64 0, .int .i64 0, .int .u64 0, .int .u64 0, .int .i64 0, .int .u64 0, .int .i64 0, .int .i64 0, .int .i64 0, .int .i64 0, .int .i64 0, .int .i64 0, .int .i64 0, .int .i64 0, .int .u64 0]) HZ.out rfl
        (try simp only [Exit.inBlock, Exit.then])
        refine bodyPost_ret (results_cellT2 rfl _ _ w.heap.size rfl (loadLt hr6 rfl)) rfl ?_
        have e0 : lo = zLt := by rw [HOFD.out, if_neg (by rw [HOKF.out]; simp)]
        obtain rfl : ev = 4 := by rw [← HEV.out]; exact if_neg (by rw [HOKF.out]; simp)
        rw [e0]
        exact ⟨rfl, Only.below (HB1.out.trans (HB.out.mono HB1.out.size)) (Nat.le_refl _) (HB1.out.trans (HB.out.mono HB1.out.size)).size ((Only.refl w.heap.size _).setCells 0 _)⟩
      · obtain rfl : em = 0 := by rw [← HEM.out, HOM.out]; rfl
        have HCND := Lib.hid HOM.out
        obtain ⟨q1, q2⟩ := row_loT 11 HR8.out rfl rfl
        have tg : w12.there g 4 11 := there_rowO HR.out rfl
        have h8n : ([.int .i64 M.k, .int .u64 M.tk, .int .i64 M.c, .int .i64 M.d, .int .i64 M.co, .int .i64 M.fl, .int .i64 M.dy, .int .i64 M.va, .int .i64 M.st, .int .i64 M.ho, .int .u64 M.nx] : List Value).length = 11 := rfl
        have h8c : ([.int .i64 M.k, .int .u64 M.tk, .int .i64 M.c, .int .i64 M.d, .int .i64 M.co, .int .i64 M.fl, .int .i64 M.dy, .int .i64 M.va, .int .i64 M.st, .int .i64 M.ho, .int .u64 M.nx] : List Value).all (·.oneCell') = true := rfl
        go_upto_region 13 with fail
        clear q1 q2 tg h8n h8c
        have HR := Lib.hid (setCells_rowP [.int .i64 M.k, .int .u64 M.tk, .int .i64 M.c, .int .i64 M.d, .int .i64 M.co, .int .i64 M.fl, .int .i64 M.dy, .int .i64 M.va, .int .i64 M.st, .int .i64 M.ho, .int .u64 M.nx] [.int .i64 (F : Int), .int .i64 (T : Int), .int .u64 (N : Int), .int .u64 (A : Int)] [.int .i64 0, .int .u64 0, .int .i64 0, .int .i64 0, .int .i64 0, .int .i64 0, .int .i64 0, .int .i64 0, .int .i64 0, .int .i64 0, .int .u64 0] w12 HR.out rfl)
        have HON := Lib.hid ((Only.refl g w12).setCells 4 [.int .i64 M.k, .int .u64 M.tk, .int .i64 M.c, .int .i64 M.d, .int .i64 M.co, .int .i64 M.fl, .int .i64 M.dy, .int .i64 M.va, .int .i64 M.st, .int .i64 M.ho, .int .u64 M.nx])
        have HZ := Lib.hid ((HON.out.block _ (block_lt HZ.out) hzg).trans HZ.out)
        have HB := Lib.hid (Only.below HB.out hgl HB.out.size HON.out)
        have HR := Lib.hid (show (w12.setCells g 4 [.int .i64 M.k, .int .u64 M.tk, .int .i64 M.c, .int .i64 M.d, .int .i64 M.co, .int .i64 M.fl, .int .i64 M.dy, .int .i64 M.va, .int .i64 M.st, .int .i64 M.ho, .int .u64 M.nx]).heap[g]? = some (.cells #[.int .i64 (F : Int), .int .i64 (T : Int), .int .u64 (N : Int), .int .u64 (A : Int), .int .i64 M.k, .int .u64 M.tk, .int .i64 M.c, .int .i64 M.d, .int .i64 M.co, .int .i64 M.fl, .int .i64 M.dy, .int .i64 M.va, .int .i64 M.st, .int .i64 M.ho, .int .u64 M.nx] 31 (0, 0)) from HR.out)
        clear HON HR8
        generalize w12.setCells g 4 [.int .i64 M.k, .int .u64 M.tk, .int .i64 M.c, .int .i64 M.d, .int .i64 M.co, .int .i64 M.fl, .int .i64 M.dy, .int .i64 M.va, .int .i64 M.st, .int .i64 M.ho, .int .u64 M.nx] = w13 at *
        obtain ⟨mb, hmb⟩ : ∃ q, Ltr.mayB (F : Int) (T : Int) (N : Int) (A : Int) M.k M.tk M.c M.d M.co M.fl M.dy M.va M.st M.ho M.nx = q := ⟨_, rfl⟩
        have HMB := Lib.hid hmb
        have HMY := Lib.hid (fun W => lmay_any (F : Int) (T : Int) (N : Int) (A : Int) M.k M.tk M.c M.d M.co M.fl M.dy M.va M.st M.ho M.nx (by rw [HLMD.out]; exact HWFM.out.1) (by rw [HLMD.out]; exact HWFM.out.2) ⟨by omega, by omega⟩ ⟨by omega, by omega⟩ W)
        rw [hmb] at HMY
        have HGM : Hid (G.may = mb) := Lib.hid (by rw [HLG.out]; exact hmb)
        clear hmb
        obtain ⟨f1, f2⟩ := row_loT 15 HR.out rfl rfl
        go_wp2_with fail
        clear f1 f2
        refine (HMY.out _).mono ?_
        rintro e w11 ⟨rfl, hbn⟩
        have HB := Lib.hid (HB.out.trans (hbn.mono HB.out.size))
        have HR := Lib.hid ((hbn.block _ (block_lt HR.out)).trans HR.out)
        have HZ := Lib.hid ((hbn.block _ (block_lt HZ.out)).trans HZ.out)
        clear hbn
        cases mb
        · have HOKF : Hid (ok = false) := Lib.hid (by rw [HOKD.out]; rw [HGM.out]; simp)
          have th := there_rowT (n := 15) HZ.out rfl
          have h1n : ([.int .i64 0, .int .i64 0, .int .u64 0, .int .u64 0, .int .i64 0, .int .u64 0, .int .i64 0, .int .i64 0, .int .i64 0, .int .i64 0, .int .i64 0, .int .i64 0, .int .i64 0, .int .i64 0, .int .u64 0] : List Value).length = 15 := rfl
          have h1c : ([.int .i64 0, .int .i64 0, .int .u64 0, .int .u64 0, .int .i64 0, .int .u64 0, .int .i64 0, .int .i64 0, .int .i64 0, .int .i64 0, .int .i64 0, .int .i64 0, .int .i64 0, .int .i64 0, .int .u64 0] : List Value).all (·.oneCell') = true := rfl
          go_wp2_with fail
          have hr6 := setCells_rowT (g := w.heap.size) (cs := [.int .i64 0, .int .i64 0, .int .u64 0, .int .u64 0, .int .i64 0, .int .u64 0, .int .i64 0, .int .i64 0, .int .i64 0, .int .i64 0, .int .i64 0, .int .i64 0, .int .i64 0, .int .i64 0, .int .u64 0]) HZ.out rfl
          (try simp only [Exit.inBlock, Exit.then])
          refine bodyPost_ret (results_cellT2 rfl _ _ w.heap.size rfl (loadLt hr6 rfl)) rfl ?_
          have e0 : lo = zLt := by rw [HOFD.out, if_neg (by rw [HOKF.out]; simp)]
          obtain rfl : ev = 4 := by rw [← HEV.out]; exact if_neg (by rw [HOKF.out]; simp)
          rw [e0]
          exact ⟨rfl, Only.below (HB1.out.trans (HB.out.mono HB1.out.size)) (Nat.le_refl _) (HB1.out.trans (HB.out.mono HB1.out.size)).size ((Only.refl w.heap.size _).setCells 0 _)⟩
        · have HOKT : Hid (ok = true) := Lib.hid (by rw [HOKD.out, HGM.out]; simp [HQ.out, HCND.out])
          obtain ⟨f1, f2⟩ := row_loT 15 HR.out rfl rfl
          have th := there_rowT (n := 15) HZ.out rfl
          have h1n : ([.int .i64 (F : Int), .int .i64 (T : Int), .int .u64 (N : Int), .int .u64 (A : Int), .int .i64 M.k, .int .u64 M.tk, .int .i64 M.c, .int .i64 M.d, .int .i64 M.co, .int .i64 M.fl, .int .i64 M.dy, .int .i64 M.va, .int .i64 M.st, .int .i64 M.ho, .int .u64 M.nx] : List Value).length = 15 := rfl
          have h1c : ([.int .i64 (F : Int), .int .i64 (T : Int), .int .u64 (N : Int), .int .u64 (A : Int), .int .i64 M.k, .int .u64 M.tk, .int .i64 M.c, .int .i64 M.d, .int .i64 M.co, .int .i64 M.fl, .int .i64 M.dy, .int .i64 M.va, .int .i64 M.st, .int .i64 M.ho, .int .u64 M.nx] : List Value).all (·.oneCell') = true := rfl
          go_wp2_with fail
          have hr6 := setCells_rowT (g := w.heap.size) (cs := [.int .i64 (F : Int), .int .i64 (T : Int), .int .u64 (N : Int), .int .u64 (A : Int), .int .i64 M.k, .int .u64 M.tk, .int .i64 M.c, .int .i64 M.d, .int .i64 M.co, .int .i64 M.fl, .int .i64 M.dy, .int .i64 M.va, .int .i64 M.st, .int .i64 M.ho, .int .u64 M.nx]) HZ.out rfl
          (try simp only [Exit.inBlock, Exit.then])
          refine bodyPost_ret (results_cellT2 rfl _ _ w.heap.size rfl (loadLt hr6 rfl)) rfl ?_
          have e0 : lo = ⟨(F : Int), (T : Int), (N : Int), (A : Int), M.k, M.tk, M.c, M.d, M.co, M.fl, M.dy, M.va, M.st, M.ho, M.nx⟩ := by rw [HOFD.out, if_pos HOKT.out, HLG.out] <;> rfl
          obtain rfl : ev = 0 := by rw [← HEV.out]; exact if_pos HOKT.out
          rw [e0]
          exact ⟨rfl, Only.below (HB1.out.trans (HB.out.mono HB1.out.size)) (Nat.le_refl _) (HB1.out.trans (HB.out.mono HB1.out.size)).size ((Only.refl w.heap.size _).setCells 0 _)⟩
  · rw [if_neg hq] at HEN
    have HQ := Lib.hid hq
    clear hq
    go_wp2_with fail
    refine HEN.out.mono ?_
    rintro e w10 ⟨rfl, nd, rfl⟩
    have hbn := below_drewN w9 nd
    have HB := Lib.hid (HB.out.trans (hbn.mono HB.out.size))
    have HR := Lib.hid ((hbn.block _ (block_lt HR.out)).trans HR.out)
    have HZ := Lib.hid ((hbn.block _ (block_lt HZ.out)).trans HZ.out)
    clear hbn
    generalize hw10 : w9.drewN nd = w10 at *
    clear hw10
    have hcg := fun j => cell_of_row w10 g j _ _ _ HR.out
    clear hcg
    have HOKF : Hid (ok = false) := Lib.hid (by rw [HOKD.out]; rw [decide_eq_false HQ.out]; simp)
    have th := there_rowT (n := 15) HZ.out rfl
    have h1n : ([.int .i64 0, .int .i64 0, .int .u64 0, .int .u64 0, .int .i64 0, .int .u64 0, .int .i64 0, .int .i64 0, .int .i64 0, .int .i64 0, .int .i64 0, .int .i64 0, .int .i64 0, .int .i64 0, .int .u64 0] : List Value).length = 15 := rfl
    have h1c : ([.int .i64 0, .int .i64 0, .int .u64 0, .int .u64 0, .int .i64 0, .int .u64 0, .int .i64 0, .int .i64 0, .int .i64 0, .int .i64 0, .int .i64 0, .int .i64 0, .int .i64 0, .int .i64 0, .int .u64 0] : List Value).all (·.oneCell') = true := rfl
    go_wp2_with fail
    have hr6 := setCells_rowT (g := w.heap.size) (cs := [.int .i64 0, .int .i64 0, .int .u64 0, .int .u64 0, .int .i64 0, .int .u64 0, .int .i64 0, .int .i64 0, .int .i64 0, .int .i64 0, .int .i64 0, .int .i64 0, .int .i64 0, .int .i64 0, .int .u64 0]) HZ.out rfl
    (try simp only [Exit.inBlock, Exit.then])
    refine bodyPost_ret (results_cellT2 rfl _ _ w.heap.size rfl (loadLt hr6 rfl)) rfl ?_
    have e0 : lo = zLt := by rw [HOFD.out, if_neg (by rw [HOKF.out]; simp)]
    obtain rfl : ev = 4 := by rw [← HEV.out]; exact if_neg (by rw [HOKF.out]; simp)
    rw [e0]
    exact ⟨rfl, Only.below (HB1.out.trans (HB.out.mono HB1.out.size)) (Nat.le_refl _) (HB1.out.trans (HB.out.mono HB1.out.size)).size ((Only.refl w.heap.size _).setCells 0 _)⟩
end Go.Proofs.YtellhmbebimenaaDoor
