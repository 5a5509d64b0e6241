/- Contracts: slices.Contains over statuses; ticket.Value, Taxes, Live. -/
import Derived.Test.YtadabjkhiaidcaaDsl16
import Derived.Test.YtadabjkhiaidcaaDsl20
import Derived.Test.YtadabjkhiaidcaaDsl25

set_option linter.unusedVariables false
set_option linter.unusedSimpArgs false
namespace Go.Proofs.Ytadabjkhiaidcaa
open Go.RowKit

attribute [local go_sem ↓] Tk_execLoad Tk_execStore Cp_execLoad Cp_execStore Tx_execLoad Tx_execStore

attribute [local go_sem] Tk_load Tk_store Cp_load Cp_store Tx_load Tx_store loL_drew okL_drew there_sc World.there_drew

theorem Tkt.live_part {t : Tk} (hm : Tkt.mayB t = true) (k : Nat) : 0 ≤ Tkt.liveN (t.cs.take k) ∧ Tkt.liveN (t.cs.take k) ≤ 4 := by
  have h1 := Tkt.liveN_bound (t.cs.take k)
  have h2 := Tkt.mayB_lens hm
  have h3 : (t.cs.take k).length ≤ 4 := by rw [List.length_take]; omega
  omega

theorem ret_intT {k : IntKind} {a b : Int} (h : a = b) : Ending.returned (.int k a) = .returned (.int k b) := by rw [h]
/-- where a status is found -/
def IdxR (l : List Int) (s : Int) (w : World) (e : Ending) (w' : World) : Prop := ∃ r : Int, e = .returned (.int .i64 r) ∧ decide (0 ≤ r) = l.contains s ∧ w = w'
theorem has_none {l : List Int} {s : Int} (h : ∀ x ∈ l, x ≠ s) : l.contains s = false := by
  cases hc : l.contains s
  · rfl
  · exact absurd rfl (h s (by simpa using hc))
theorem take_none {l : List Int} {s x : Int} {k : Nat} (h : ∀ x ∈ l.take k, x ≠ s) (hx : l[k]? = some x) (hne : x ≠ s) : ∀ y ∈ l.take (k + 1), y ≠ s := by
  rw [Tkt.take_snocT hx]
  intro y hy
  rcases List.mem_append.1 hy with hy | hy
  · exact h y hy
  · rw [List.mem_singleton.1 hy]; exact hne

set_option maxRecDepth 4000 in
set_option maxHeartbeats 4000000 in
theorem indexSt_any (l : List Int) (s : Int) (p : Option Addr) (n cap : Nat) (w : World) (hs : LS stC 1 w (.slice p n cap) l) :
    Calls Try.prog 71 #[.slice p n cap, .int .i64 s] w fun e w' => IdxR l s w e w' := by
  have HS := Lib.hid hs
  have HN := Lib.hid hs.length
  have hn : n ≤ 9223372036854775807 := by have h1 := hs.length.2; unfold maxLen at h1; omega
  clear hs
  go_enter Try.func71, Try.ntmps71
  go_wp2
  go_loop [8] (fun i => ∃ k : Nat, k ≤ n ∧ i = .int .i64 k ∧ ∀ x ∈ l.take k, x ≠ s) (fun i => n - (intOf i).toNat)
  case atStart => exact ⟨0, Nat.zero_le _, rfl, by simp⟩
  case round =>
    obtain ⟨k, hk, rfl, hno⟩ := hrel
    have HNO := Lib.hid hno
    clear hno
    by_cases hlt : k < n
    · obtain ⟨x, hx⟩ : ∃ x, l[k]? = some x := ⟨_, List.getElem?_eq_getElem (by have := HN.out; omega)⟩
      obtain ⟨b, o, rfl, -, hr⟩ := HS.out.at hx
      have HX := Lib.hid hx
      have hc : w.cell? ⟨b, o + k, none⟩ = some (.int .i64 x) := by have := hr 0 _ rfl; rwa [Nat.mul_one] at this
      clear hr hx
      by_cases he : s = x
      · have heb : (s == x) = true := by simpa using he
        have HF : Hid (l.contains s = true) := Lib.hid (by have := List.mem_of_getElem? HX.out; rw [← he] at this; simpa using this)
        clear he
        go_wp2
        go_ret
        exact ⟨k, rfl, by rw [HF.out]; simp, rfl⟩
      · have heb : (s == x) = false := by simpa using he
        have HE := Lib.hid he
        clear he
        go_wp2
        go_round
        case rel => exact ⟨k + 1, by omega, by go_num, take_none HNO.out HX.out (fun h => HE.out h.symm)⟩
        case measure => simp [intOf]; omega
    · obtain rfl : k = n := by omega
      go_wp2
      go_ret
      exact ⟨-1, rfl, by rw [has_none (by have := HNO.out; rwa [List.take_of_length_le (by have := HN.out; omega)] at this)]; rfl, rfl⟩

set_option maxRecDepth 4000 in
set_option maxHeartbeats 4000000 in
theorem containsSt_any (l : List Int) (s : Int) (p : Option Addr) (n cap : Nat) (w : World) (hs : LS stC 1 w (.slice p n cap) l) :
    Calls Try.prog 42 #[.slice p n cap, .int .i64 s] w fun e w' => e = .returned (.bool (l.contains s)) ∧ w = w' := by
  have HI := Lib.hid (indexSt_any l s p n cap w hs)
  clear hs
  go_enter Try.func42, Try.ntmps42
  go_wp2_with fail
  refine HI.out.mono ?_
  rintro e w' ⟨r, rfl, hr, rfl⟩
  have HR := Lib.hid hr
  clear hr
  go_wp2
  go_ret
  exact ⟨ret_bool HR.out, rfl⟩

set_option maxHeartbeats 400000 in
theorem statusLive_any (n : Int) (w : World) : Calls Try.prog 89 #[.int .i64 n] w fun e w' => e = .returned (.bool (Tkt.liveB n)) ∧ w = w' := by
  have HB := Lib.hid (fun W => bits_any n W)
  have HL : Hid (Tkt.liveB n = (Tkt.bitsI n != 0)) := Lib.hid (by unfold Tkt.liveB; rw [Bool.eq_iff_iff]; simp)
  generalize Tkt.bitsI n = b at *
  go_enter Try.func89, Try.ntmps89
  go_wp2_with (go_at_call 73; refine (HB.out _).mono ?_; rintro e w' ⟨rfl, rfl⟩)
  go_ret
  exact ⟨ret_bool HL.out.symm, rfl⟩

end Go.Proofs.Ytadabjkhiaidcaa
