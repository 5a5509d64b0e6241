/- Contracts of the program's Of and Text. -/
import Derived.Test.YtellhmbebimenaaDoorPb7

set_option linter.unusedSimpArgs false
set_option linter.unusedVariables false
namespace Go.Proofs.YtellhmbebimenaaDoor
open Go.RowKit

theorem ofE_notall {s : ByteArray} {k : Nat} (h : k < s.size) (hb : Dec.isDig s[k] = false) : Num.ofE s.data.toList = 4 ∧ Num.ofN s.data.toList = 0 := by
  apply ofE_short
  right
  rw [Bool.eq_false_iff]
  intro ha
  have := List.all_eq_true.1 ha _ (mem_of_lt s k h)
  rw [hb] at this; cases this

/-- a row of runes, and thirteen noughts: behind plain names, so that the walk doesn't write them out -/
def runeRow (zs : List Int) : Array Value := (zs.map (Value.int .i32)).toArray
def zeros13 : List Int := List.replicate 13 0
theorem runeRow_at {zs : List Int} {j : Nat} (h : j < zs.length) : (runeRow zs)[j]? = some (.int .i32 (zs.getD j 0)) := by
  unfold runeRow; simp [List.getElem?_eq_getElem h, h]
theorem runeRow_set (zs : List Int) (j : Nat) (v : Int) : (runeRow zs).setIfInBounds j (.int .i32 v) = runeRow (zs.set j v) := by
  unfold runeRow; simp [List.map_set]

theorem encode_ascii (c : UInt8) (h : Dec.isDig c = true) : Utf8.encode (c.toNat : Int) = ⟨#[c]⟩ := by
  have hc := Dec.isDig_iff.1 h
  have hv : Utf8.valid (c.toNat : Int) = true := by simp [Utf8.valid]; omega
  unfold Utf8.encode
  simp only [hv, if_true]
  rw [if_pos (by show (c.toNat : Int).toNat < 128; omega)]
  simp
theorem runes_ascii (acc : List UInt8) : ∀ s : ByteArray, acc.all Dec.isDig = true → (acc.map (fun c => (c.toNat : Int))).foldl (fun r n => r ++ Utf8.encode n) s = s ++ ⟨acc.toArray⟩ := by
  induction acc with
  | nil => intro s _; apply ByteArray.ext; simp
  | cons c acc ih =>
    intro s h
    rw [List.all_cons, Bool.and_eq_true] at h
    rw [List.map_cons, List.foldl_cons, ih _ h.2, encode_ascii c h.1]
    apply ByteArray.ext
    simp
theorem runesBytes_ascii (acc : List UInt8) (h : acc.all Dec.isDig = true) : runesBytes (acc.map (fun c => (c.toNat : Int))) = ⟨acc.toArray⟩ := by
  unfold runesBytes
  rw [runes_ascii acc _ h]
  apply ByteArray.ext
  simp
theorem drop_set_step (zs : List Int) (v : Int) (k : Nat) (hz : zs.length = 13) (hk : k < 13) : (zs.set (12 - k) v).drop (13 - (k + 1)) = v :: zs.drop (13 - k) := by
  rw [show 13 - (k + 1) = 12 - k from by omega, List.drop_eq_getElem_cons (by simp; omega)]
  rw [show 13 - k = 12 - k + 1 from by omega]
  simp [List.drop_set]

set_option maxHeartbeats 1000000 in
theorem text_any (n : Int) (h0 : 0 ≤ n) (h1 : n ≤ 18446744073709551615) (w : World) :
    Calls Tryd.prog 72 #[.int .u64 n] w fun e w' => e = .returned (.string (if Num.check n = 0 then ⟨(Dec.text n.toNat 13).toArray⟩ else ⟨#[]⟩)) ∧ Below w.heap.size w w' := by
  obtain ⟨N, rfl⟩ := Int.eq_ofNat_of_zero_le h0
  simp only [Int.toNat_natCast]
  by_cases hc : Num.check N = 0
  · rw [if_pos hc]
    have hcb : (Num.check N != 0) = false := by rw [hc]; rfl
    clear hc
    have hmk : ∀ w : World, (Instr.makeSlice 171 (.int .i64 13) (.int .i64 13)).run Tryd.prog w = .ok (.slice (some ⟨w.heap.size, 0, none⟩) 13 13) (w.alloc (.cells (runeRow zeros13) 21)) := fun _ => by kernel_rfl
    go_enter Tryd.func72, Tryd.ntmps72
    go_wp2_with (first | (go_at_call 71; refine (check_any _ (by omega) (by omega) _).mono ?_; rintro e w' ⟨rfl, rfl⟩))
    go_loopw [0, 11] (fun n5 i wr => ∃ (k N' : Nat) (zs : List Int) (acc : List UInt8), k ≤ 13 ∧ i = .int .i64 k ∧ n5 = .int .u64 N' ∧ N' ≤ 18446744073709551615 ∧ zs.length = 13 ∧ wr = w.alloc (.cells (runeRow zs) 21) ∧
        (zs.drop (13 - k) = acc.map (fun c => (c.toNat : Int)) ∧ Dec.text N 13 = Dec.text N' (13 - k) ++ acc)) (fun _ i _ => 13 - (intOf i).toNat)
    case atStart => exact ⟨0, N, zeros13, [], Nat.zero_le _, rfl, rfl, by omega, by decide, rfl, rfl, by simp⟩
    case round =>
      obtain ⟨k, N', zs, acc, hk, rfl, rfl, hN, hz, rfl, hrest⟩ := hrel
      have HR := Lib.hid hrest; clear hrest
      have HZ := Lib.hid hz; clear hz
      clear hmk hcb
      by_cases hlt : k < 13
      · have hck := runeRow_at (zs := zs) (j := 12 - k) (by have := HZ.out; omega)
        go_wp2
        go_roundw
        case rel =>
          refine ⟨k + 1, N' / 10, zs.set (12 - k) (48 + (N' : Int) % 10), Dec.dig N' :: acc, by omega, by go_num, by go_num, by omega, by rw [List.length_set]; exact HZ.out, by rw [runeRow_set], ?_, ?_⟩
          · rw [drop_set_step _ _ _ HZ.out hlt, HR.out.1, List.map_cons, Dec.dig_toNat]
            congr 1
          · rw [HR.out.2, show 13 - k = (13 - (k + 1)) + 1 from by omega]
            simp [Dec.text]
        case measure => simp [intOf]; omega
      · obtain rfl : k = 13 := by omega
        have ha : Dec.text N 13 = acc := by rw [HR.out.2]; rfl
        have hzs : zs = (Dec.text N 13).map (fun c => (c.toNat : Int)) := by rw [ha, ← HR.out.1]; rfl
        have hcv : (convert 171 9 (.slice (some ⟨w.heap.size, 0, none⟩) 13 13)).run Tryd.prog (w.alloc (.cells (runeRow zs) 21)) = .ok (.string ⟨(Dec.text N 13).toArray⟩) (w.alloc (.cells (runeRow zs) 21)) := by
          rw [run_convert_runes _ 171 9 21 ⟨w.heap.size, 0, none⟩ 13 13 zs (by rw [HZ.out]; exact Nat.le_refl _) Tryd.underlying171 Tryd.underlying21 Tryd.underlying9 (fun j hj => by
            have h1 : (w.alloc (.cells (runeRow zs) 21)).cell? ⟨w.heap.size, j, none⟩ = (runeRow zs)[j]? := World.cell?_alloc_mark w _ _ (0, 0) j
            have h2 : (Addr.add ⟨w.heap.size, 0, none⟩ j) = ⟨w.heap.size, j, none⟩ := by unfold Addr.add; split <;> simp_all
            rw [h2, h1, runeRow_at hj])]
          rw [List.take_of_length_le (by rw [HZ.out]; exact Nat.le_refl _), hzs, runesBytes_ascii _ (Dec.text_all _ _)]
        clear hzs ha
        go_wp2
        go_ret
        exact ⟨rfl, (Below.refl _ _).alloc (Nat.le_refl _) _⟩
  · rw [if_neg hc]
    have hcb : (Num.check N != 0) = true := bne_iff_ne.2 hc
    clear hc
    go_enter Tryd.func72, Tryd.ntmps72
    go_wp2_with (first | (go_at_call 71; refine (check_any _ (by omega) (by omega) _).mono ?_; rintro e w' ⟨rfl, rfl⟩))
    go_ret
    exact ⟨rfl, Below.refl _ _⟩
end Go.Proofs.YtellhmbebimenaaDoor
