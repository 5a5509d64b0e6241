/- Contract of the net chapter's rows (known). -/
import Derived.Test.YtihilifpadpkbaaNtKA
import Derived.Deep.RegionHeld3
set_option linter.unusedVariables false
set_option linter.unusedSimpArgs false
namespace Go.Proofs.Ytihilifpadpkbaa
open Go.RowKit

attribute [local go_sem ↓] Lt_execLoad
attribute [local go_sem] Lt_load loL_drew okL_drew
set_option maxRecDepth 10000 in
set_option maxHeartbeats 8000000 in
theorem known23_any (w : World) : Calls Try.prog 9 #[] w fun e w' => e = .returned (.bool true) ∧ Below w.heap.size w w' := by
  have HB0 := Lib.hid (((Below.refl w.heap.size w).alloc (Nat.le_refl _) (.cells #[.int .i64 123, .int .i64 456, .int .u64 0, .int .u64 0, .int .i64 0, .int .u64 0, .int .i64 0, .int .i64 0, .int .i64 0, .int .i64 0, .int .i64 0, .int .i64 0, .int .i64 0, .int .i64 0, .int .u64 0] 35 (0, 0))).alloc (by simp) (.cells #[.int .i64 456, .int .i64 123, .int .u64 0, .int .u64 0, .int .i64 0, .int .u64 0, .int .i64 0, .int .i64 0, .int .i64 0, .int .i64 0, .int .i64 0, .int .i64 0, .int .i64 0, .int .i64 0, .int .u64 0] 35 (0, 0)))
  have HRA0 := Lib.hid (row_allocS (new_rowW w (.cells #[.int .i64 123, .int .i64 456, .int .u64 0, .int .u64 0, .int .i64 0, .int .u64 0, .int .i64 0, .int .i64 0, .int .i64 0, .int .i64 0, .int .i64 0, .int .i64 0, .int .i64 0, .int .i64 0, .int .u64 0] 35 (0, 0)) _ rfl) (.cells #[.int .i64 456, .int .i64 123, .int .u64 0, .int .u64 0, .int .i64 0, .int .u64 0, .int .i64 0, .int .i64 0, .int .i64 0, .int .i64 0, .int .i64 0, .int .i64 0, .int .i64 0, .int .i64 0, .int .u64 0] 35 (0, 0)))
  have HRB0 := Lib.hid (new_rowW (w.alloc (.cells #[.int .i64 123, .int .i64 456, .int .u64 0, .int .u64 0, .int .i64 0, .int .u64 0, .int .i64 0, .int .i64 0, .int .i64 0, .int .i64 0, .int .i64 0, .int .i64 0, .int .i64 0, .int .i64 0, .int .u64 0] 35 (0, 0))) (.cells #[.int .i64 456, .int .i64 123, .int .u64 0, .int .u64 0, .int .i64 0, .int .u64 0, .int .i64 0, .int .i64 0, .int .i64 0, .int .i64 0, .int .i64 0, .int .i64 0, .int .i64 0, .int .i64 0, .int .u64 0] 35 (0, 0)) (w.heap.size + 1) (by simp))
  go_enter Try.func9, Try.ntmps9
  go_wp2_with fail
  generalize hW0 : (w.alloc (.cells #[.int .i64 123, .int .i64 456, .int .u64 0, .int .u64 0, .int .i64 0, .int .u64 0, .int .i64 0, .int .i64 0, .int .i64 0, .int .i64 0, .int .i64 0, .int .i64 0, .int .i64 0, .int .i64 0, .int .u64 0] 35 (0, 0))).alloc (.cells #[.int .i64 456, .int .i64 123, .int .u64 0, .int .u64 0, .int .i64 0, .int .u64 0, .int .i64 0, .int .i64 0, .int .i64 0, .int .i64 0, .int .i64 0, .int .i64 0, .int .i64 0, .int .i64 0, .int .u64 0] 35 (0, 0)) = W0 at *
  have HSZ0 := Lib.hid (show w.heap.size + 2 = W0.heap.size from by rw [← hW0]; simp)
  clear hW0
  refine (nnew_any 2 (by omega) (by omega) _).mono ?_
  rintro e w1 ⟨rfl, hn, hb⟩
  have HN1 := Lib.hid hn
  have HB1 := Lib.hid (HB0.out.trans (hb.mono HB0.out.size))
  have HRA1 := Lib.hid ((hb.block _ (block_lt HRA0.out)).trans HRA0.out)
  have HRB1 := Lib.hid ((hb.block _ (block_lt HRB0.out)).trans HRB0.out)
  have HSZ1 := Lib.hid (block_lt hn.2.1)
  clear hb hn
  go_wp2_with fail
  refine (nnew_any 2 (by omega) (by omega) _).mono ?_
  rintro e w2 ⟨rfl, hn, hb⟩
  have HM2 := Lib.hid hn
  have HN2 := Lib.hid (HN1.out.below hb)
  have HB2 := Lib.hid (HB1.out.trans (hb.mono HB1.out.size))
  have hra := (hb.block _ (block_lt HRA1.out)).trans HRA1.out
  have hrb := (hb.block _ (block_lt HRB1.out)).trans HRB1.out
  have HRA2 := Lib.hid hra
  have HRB2 := Lib.hid hrb
  have hca := row_lo 15 hra rfl rfl
  have hcb := row_lo 15 hrb rfl rfl
  have HSZ2 := Lib.hid (block_lt hn.2.1)
  clear hb hn hra hrb
  go_wp2_with fail
  have hal := (Below.refl w2.heap.size w2).alloc (Nat.le_refl _) (.cells #[.int .i64 123, .int .i64 456, .int .u64 0, .int .u64 0, .int .i64 0, .int .u64 0, .int .i64 0, .int .i64 0, .int .i64 0, .int .i64 0, .int .i64 0, .int .i64 0, .int .i64 0, .int .i64 0, .int .u64 0, .int .i64 456, .int .i64 123, .int .u64 0, .int .u64 0, .int .i64 0, .int .u64 0, .int .i64 0, .int .i64 0, .int .i64 0, .int .i64 0, .int .i64 0, .int .i64 0, .int .i64 0, .int .i64 0, .int .u64 0] 35 (0, 0))
  refine (nsend_ok [Nt.kA, Nt.kB] (by intro x hx; simp at hx; rcases hx with rfl | rfl; exact Nt.kA_fit; exact Nt.kB_fit) _ _ _ (w2.alloc (.cells #[.int .i64 123, .int .i64 456, .int .u64 0, .int .u64 0, .int .i64 0, .int .u64 0, .int .i64 0, .int .i64 0, .int .i64 0, .int .i64 0, .int .i64 0, .int .i64 0, .int .i64 0, .int .i64 0, .int .u64 0, .int .i64 456, .int .i64 123, .int .u64 0, .int .u64 0, .int .i64 0, .int .u64 0, .int .i64 0, .int .i64 0, .int .i64 0, .int .i64 0, .int .i64 0, .int .i64 0, .int .i64 0, .int .i64 0, .int .u64 0] 35 (0, 0))) W0.heap.size W0.heap.size 2 false (.slice none 0 0) [] (HN2.out.below hal) (by omega) (rows_new (new_rowW w2 (.cells #[.int .i64 123, .int .i64 456, .int .u64 0, .int .u64 0, .int .i64 0, .int .u64 0, .int .i64 0, .int .i64 0, .int .i64 0, .int .i64 0, .int .i64 0, .int .i64 0, .int .i64 0, .int .i64 0, .int .u64 0, .int .i64 456, .int .i64 123, .int .u64 0, .int .u64 0, .int .i64 0, .int .u64 0, .int .i64 0, .int .i64 0, .int .i64 0, .int .i64 0, .int .i64 0, .int .i64 0, .int .i64 0, .int .i64 0, .int .u64 0] 35 (0, 0)) _ rfl) rfl Lt.cells_length (by decide) (by decide) 2 rfl) (by intro x hx; simp at hx; rcases hx with rfl | rfl; exact Nt.kA_may; exact Nt.kB_may) (by decide) (by have h1 := HSZ1.out; have h2 := HSZ2.out; simp; omega) (fun b hb hf => by
    rcases hf with h | h
    · injection hb with hb; simp at hb; have h1 := HSZ1.out; have h2 := HSZ2.out; omega
    · cases h)).mono ?_
  rintro e w3 ⟨rfl, v3, hn, ht, hv⟩
  have HT3 := Lib.hid (((Turn.refl (fun i => i = W0.heap.size) w2).alloc (.cells #[.int .i64 123, .int .i64 456, .int .u64 0, .int .u64 0, .int .i64 0, .int .u64 0, .int .i64 0, .int .i64 0, .int .i64 0, .int .i64 0, .int .i64 0, .int .i64 0, .int .i64 0, .int .i64 0, .int .u64 0, .int .i64 456, .int .i64 123, .int .u64 0, .int .u64 0, .int .i64 0, .int .u64 0, .int .i64 0, .int .i64 0, .int .i64 0, .int .i64 0, .int .i64 0, .int .i64 0, .int .i64 0, .int .i64 0, .int .u64 0] 35 (0, 0))).after ht (fun i hi h => by rcases h with h | h; exact h; cases h))
  have HN3 := Lib.hid hn
  have HV3 : Hid (∀ i, v3.ownBlock = some i → w2.heap.size < i) := Lib.hid (fun i hi => by
    rcases hv with h | ⟨b, h, hb⟩
    · rw [h] at hi; cases hi
    · rw [h] at hi; injection hi with hi; simp at hb; omega)
  have HM3 := Lib.hid (HM2.out.turn HT3.out (by have := HSZ1.out; omega) (fun b hb => by cases hb))
  have HB3 := Lib.hid (Turn.below HB2.out HB2.out.size HT3.out (fun i h => by have := HSZ0.out; omega))
  have hra := (HT3.out.block _ (block_lt HRA2.out) (by have := HSZ0.out; omega)).trans HRA2.out
  have hrb := (HT3.out.block _ (block_lt HRB2.out) (by have := HSZ0.out; omega)).trans HRB2.out
  have HRA3 := Lib.hid hra
  have HRB3 := Lib.hid hrb
  clear hca hcb
  have hca := row_lo 15 hra rfl rfl
  have hcb := row_lo 15 hrb rfl rfl
  clear hal hn ht hv hra hrb
  go_wp2_with fail
  have hal := (Below.refl w3.heap.size w3).alloc (Nat.le_refl _) (.cells #[.int .i64 123, .int .i64 456, .int .u64 0, .int .u64 0, .int .i64 0, .int .u64 0, .int .i64 0, .int .i64 0, .int .i64 0, .int .i64 0, .int .i64 0, .int .i64 0, .int .i64 0, .int .i64 0, .int .u64 0, .int .i64 456, .int .i64 123, .int .u64 0, .int .u64 0, .int .i64 0, .int .u64 0, .int .i64 0, .int .i64 0, .int .i64 0, .int .i64 0, .int .i64 0, .int .i64 0, .int .i64 0, .int .i64 0, .int .u64 0] 35 (0, 0))
  refine (nsend_ok [Nt.kA, Nt.kB] (by intro x hx; simp at hx; rcases hx with rfl | rfl; exact Nt.kA_fit; exact Nt.kB_fit) _ _ _ (w3.alloc (.cells #[.int .i64 123, .int .i64 456, .int .u64 0, .int .u64 0, .int .i64 0, .int .u64 0, .int .i64 0, .int .i64 0, .int .i64 0, .int .i64 0, .int .i64 0, .int .i64 0, .int .i64 0, .int .i64 0, .int .u64 0, .int .i64 456, .int .i64 123, .int .u64 0, .int .u64 0, .int .i64 0, .int .u64 0, .int .i64 0, .int .i64 0, .int .i64 0, .int .i64 0, .int .i64 0, .int .i64 0, .int .i64 0, .int .i64 0, .int .u64 0] 35 (0, 0))) w1.heap.size w1.heap.size 2 false (.slice none 0 0) [] (HM3.out.below hal) (by omega) (rows_new (new_rowW w3 (.cells #[.int .i64 123, .int .i64 456, .int .u64 0, .int .u64 0, .int .i64 0, .int .u64 0, .int .i64 0, .int .i64 0, .int .i64 0, .int .i64 0, .int .i64 0, .int .i64 0, .int .i64 0, .int .i64 0, .int .u64 0, .int .i64 456, .int .i64 123, .int .u64 0, .int .u64 0, .int .i64 0, .int .u64 0, .int .i64 0, .int .i64 0, .int .i64 0, .int .i64 0, .int .i64 0, .int .i64 0, .int .i64 0, .int .i64 0, .int .u64 0] 35 (0, 0)) _ rfl) rfl Lt.cells_length (by decide) (by decide) 2 rfl) (by intro x hx; simp at hx; rcases hx with rfl | rfl; exact Nt.kA_may; exact Nt.kB_may) (by decide) (by have h1 := HSZ2.out; have h2 := HT3.out.size; simp; omega) (fun b hb hf => by
    rcases hf with h | h
    · injection hb with hb; simp at hb; have h1 := HSZ2.out; have h2 := HT3.out.size; omega
    · cases h)).mono ?_
  rintro e w4 ⟨rfl, v4, hn, ht, hv⟩
  have HT4 := Lib.hid (((Turn.refl (fun i => i = w1.heap.size) w3).alloc (.cells #[.int .i64 123, .int .i64 456, .int .u64 0, .int .u64 0, .int .i64 0, .int .u64 0, .int .i64 0, .int .i64 0, .int .i64 0, .int .i64 0, .int .i64 0, .int .i64 0, .int .i64 0, .int .i64 0, .int .u64 0, .int .i64 456, .int .i64 123, .int .u64 0, .int .u64 0, .int .i64 0, .int .u64 0, .int .i64 0, .int .i64 0, .int .i64 0, .int .i64 0, .int .i64 0, .int .i64 0, .int .i64 0, .int .i64 0, .int .u64 0] 35 (0, 0))).after ht (fun i hi h => by rcases h with h | h; exact h; cases h))
  have HM4 := Lib.hid hn
  have HV4 : Hid (∀ i, v4.ownBlock = some i → w3.heap.size < i) := Lib.hid (fun i hi => by
    rcases hv with h | ⟨b, h, hb⟩
    · rw [h] at hi; cases hi
    · rw [h] at hi; injection hi with hi; simp at hb; omega)
  have HN4 := Lib.hid (HN3.out.turn HT4.out (by have := HSZ1.out; omega) (fun b hb e => by have h1 := HV3.out b hb; have h2 := HSZ2.out; omega))
  have HB4 := Lib.hid (Turn.below HB3.out HB3.out.size HT4.out (fun i h => by have h1 := HSZ0.out; have h2 := HSZ1.out; omega))
  have hra := (HT4.out.block _ (block_lt HRA3.out) (by have h1 := HSZ0.out; have h2 := HSZ1.out; omega)).trans HRA3.out
  have hrb := (HT4.out.block _ (block_lt HRB3.out) (by have h1 := HSZ0.out; have h2 := HSZ1.out; omega)).trans HRB3.out
  have HRA4 := Lib.hid hra
  have HRB4 := Lib.hid hrb
  clear hca hcb hal hn ht hv hra hrb
  go_wp2_with fail
  refine (ncalm_any w4 w1.heap.size w1.heap.size 2 false v4 _ HM4.out (by omega) true).mono ?_
  rintro e w5 ⟨rfl, hn, ht⟩
  have HM5 := Lib.hid hn
  have HN5 := Lib.hid (HN4.out.turn ht (by have := HSZ1.out; omega) (fun b hb e => by have h1 := HV3.out b hb; have h2 := HSZ2.out; omega))
  have HB5 := Lib.hid (Turn.below HB4.out HB4.out.size ht (fun i h => by have h1 := HSZ0.out; have h2 := HSZ1.out; omega))
  have hra := (ht.block _ (block_lt HRA4.out) (by have h1 := HSZ0.out; have h2 := HSZ1.out; omega)).trans HRA4.out
  have hrb := (ht.block _ (block_lt HRB4.out) (by have h1 := HSZ0.out; have h2 := HSZ1.out; omega)).trans HRB4.out
  have HSZ5 := Lib.hid (show w4.heap.size ≤ w5.heap.size from ht.size)
  clear hn ht
  go_wp2_with fail
  have hkn : Kn w W0.heap.size w1.heap.size w5 [⟨Nt.kA, 0⟩, ⟨Nt.kB, 0⟩] [⟨Nt.kA, 0⟩, ⟨Nt.kB, 0⟩] :=
    ⟨⟨v3, HN5.out, fun b hb e => by have h1 := HV3.out b hb; have h2 := HSZ2.out; omega⟩, ⟨v4, HM5.out⟩, HB5.out, hra, hrb, by have := HSZ0.out; omega, HSZ1.out, by have h2 := HSZ2.out; have h4 := HT3.out.size; have h5 := HT4.out.size; have h6 := HSZ5.out; omega⟩
  have HK0 := Lib.hid hkn.drew
  clear hkn hra hrb
  refine wp_region_held_drew (S := Kn.S w) (by kernel_rfl) HK0.out.cells (fun hHeld => ?_)
  clear hHeld
  clear HB0 HRA0 HRB0 HSZ0 HN1 HB1 HRA1 HRB1 HSZ1 HM2 HN2 HB2 HRA2 HRB2 HSZ2 HT3 HN3 HV3 HM3 HB3 HRA3 HRB3 HT4 HM4 HV4 HN4 HB4 HRA4 HRB4 HM5 HN5 HB5 HSZ5
  generalize w5.drew = X at HK0 ⊢
  have HK := HK0
  clear HK0
  have hHeld : Kn.S w X := HK.out.cells
  refine wpAnyH_take (i := 0) (oi := { dst := some 41, op := Op.move (Operand.tmp 3), type := 36, pos := "law.go:20", after := #[], guard := none }) (v := ?_) rfl (by kernel_rfl) (by kernel_rfl) (by kernel_rfl) (fun _ _ _ h => h) (Or.inl ⟨by rfl, ?_⟩) (by assumption) ?_
  rotate_left
  · intro w hSw; (try dsimp only [Kn.S] at hSw); go_simp; try with_reducible rfl
  try simp only [Act.put, List.setIfInBounds_toArray, List.set_cons_zero, List.set_cons_succ]
  refine wpAnyH_take (i := 3) (oi := { dst := some 44, op := Op.load 35 (Operand.tmp 1), type := 35, pos := "law.go:20", after := #[], guard := none }) (v := ?_) rfl (by kernel_rfl) (by kernel_rfl) (by kernel_rfl) (fun _ _ _ h => h) (Or.inl ⟨by rfl, ?_⟩) (by assumption) ?_
  rotate_left
  · intro w hSw; (try dsimp only [Kn.S] at hSw); go_simp; try with_reducible rfl
  try simp only [Act.put, List.setIfInBounds_toArray, List.set_cons_zero, List.set_cons_succ]
  refine cutJ (J := ?J1) ?h1 ?k1
  case h1 =>
    intro hJ
    refine wpAnyH_ready (rs := [1, 4]) (by kernel_rfl) (by simp) ?_
    refine AllReadyH.cons (o := { dst := some 42, op := Op.buildSlice 23 2 #[(0, Operand.const (Value.int IntKind.i64 2)), (1, Operand.const (Value.int IntKind.i64 1))], type := 23, pos := "law.go:20", after := #[], guard := none }) rfl (fun K hK => ?_) ?_
    · go_simp
      refine hK.out _ _ (HK.out.alloc _).cells (fun hHeld => ?_)
      clear hK K
      try simp only [Act.put, List.setIfInBounds_toArray, List.set_cons_zero, List.set_cons_succ]
      have HLP : Hid (LS intC 1 (X.alloc (.cells #[.int .i64 2, .int .i64 1] 3 (0, 0))) (Value.slice (some ⟨X.heap.size, 0, none⟩) 2 2) [2, 1]) := Lib.hid (new_ints rfl (by decide) 2 rfl rfl)
      refine wpAnyH_ready (rs := [2, 4]) (by kernel_rfl) (by simp) ?_
      refine AllReadyH.cons (o := { dst := some 43, op := Op.call { callee := Callee.value (Operand.func 13), args := #[Operand.tmp 41, Operand.tmp 42], argTypes := #[36, 23] }, type := 22, pos := "law.go:20", after := #[{ on := 0, ground := Ground.data }, { on := 1, ground := Ground.data }], guard := none }) rfl (fun K hK => ?_) ?_
      · go_simp
        go_at_call 13
        refine (Kn.tickN (HK.out.alloc (.cells #[.int .i64 2, .int .i64 1] 3 (0, 0))) [2, 1] HLP.out Nt.k_one.1 Nt.k_one.2 (by decide) (by decide)).mono ?_
        rintro e W1 ⟨p1, n1, c1, rfl, ht, hk, htu⟩
        refine hK.out _ _ hk.cells (fun hHeld => ?_)
        clear hK K
        try simp only [Act.put, List.setIfInBounds_toArray, List.set_cons_zero, List.set_cons_succ]
        refine wpAnyH_ready (rs := [4]) (by kernel_rfl) (by simp) ?_
        refine AllReadyH.cons (o := { dst := some 45, op := Op.buildSlice 22 1 #[(0, Operand.tmp 44)], type := 22, pos := "law.go:20", after := #[{ on := 3, ground := Ground.data }], guard := none }) rfl (fun K hK => ?_) ?_
        · go_simp
          refine hK.out _ _ (hk.alloc _).cells (fun hHeld => ?_)
          clear hK K
          try simp only [Act.put, List.setIfInBounds_toArray, List.set_cons_zero, List.set_cons_succ]
          have hb : LS Lt.cells 15 (W1.alloc (.cells #[.int .i64 123, .int .i64 456, .int .u64 0, .int .u64 0, .int .i64 0, .int .u64 0, .int .i64 0, .int .i64 0, .int .i64 0, .int .i64 0, .int .i64 0, .int .i64 0, .int .i64 0, .int .i64 0, .int .u64 0] 35 (0, 0))) (Value.slice (some ⟨W1.heap.size, 0, none⟩) 1 1) [Nt.kA] := new_lts rfl (by decide) 1 rfl rfl
          have hk := hk.alloc (.cells #[.int .i64 123, .int .i64 456, .int .u64 0, .int .u64 0, .int .i64 0, .int .u64 0, .int .i64 0, .int .i64 0, .int .i64 0, .int .i64 0, .int .i64 0, .int .i64 0, .int .i64 0, .int .i64 0, .int .u64 0] 35 (0, 0))
          have ht := ht.alloc (.cells #[.int .i64 123, .int .i64 456, .int .u64 0, .int .u64 0, .int .i64 0, .int .u64 0, .int .i64 0, .int .i64 0, .int .i64 0, .int .i64 0, .int .i64 0, .int .i64 0, .int .i64 0, .int .i64 0, .int .u64 0] 35 (0, 0))
          generalize (W1.alloc (.cells #[.int .i64 123, .int .i64 456, .int .u64 0, .int .u64 0, .int .i64 0, .int .u64 0, .int .i64 0, .int .i64 0, .int .i64 0, .int .i64 0, .int .i64 0, .int .i64 0, .int .i64 0, .int .i64 0, .int .u64 0] 35 (0, 0))) = Y at hk ht hb ⊢
          generalize (Value.slice (some ⟨X.heap.size, 0, none⟩) 2 2) = vP
          generalize (Value.slice p1 n1 c1) = vT at ht ⊢
          generalize (Value.slice (some ⟨W1.heap.size, 0, none⟩) 1 1) = vB at hb ⊢
          revert hb ht hk
          revert vB vT vP Y
          exact hJ
        exact AllReadyH.nil
      refine AllReadyH.cons (o := { dst := some 45, op := Op.buildSlice 22 1 #[(0, Operand.tmp 44)], type := 22, pos := "law.go:20", after := #[{ on := 3, ground := Ground.data }], guard := none }) rfl (fun K hK => ?_) ?_
      · go_simp
        refine hK.out _ _ ((HK.out.alloc _).alloc _).cells (fun hHeld => ?_)
        clear hK K
        try simp only [Act.put, List.setIfInBounds_toArray, List.set_cons_zero, List.set_cons_succ]
        have HLB : Hid (LS Lt.cells 15 ((X.alloc (.cells #[.int .i64 2, .int .i64 1] 3 (0, 0))).alloc (.cells #[.int .i64 123, .int .i64 456, .int .u64 0, .int .u64 0, .int .i64 0, .int .u64 0, .int .i64 0, .int .i64 0, .int .i64 0, .int .i64 0, .int .i64 0, .int .i64 0, .int .i64 0, .int .i64 0, .int .u64 0] 35 (0, 0))) (Value.slice (some ⟨(X.alloc (.cells #[.int .i64 2, .int .i64 1] 3 (0, 0))).heap.size, 0, none⟩) 1 1) [Nt.kA]) := Lib.hid (new_lts (W := X.alloc (.cells #[.int .i64 2, .int .i64 1] 3 (0, 0))) rfl (by decide) 1 rfl rfl)
        refine wpAnyH_ready (rs := [2]) (by kernel_rfl) (by simp) ?_
        refine AllReadyH.cons (o := { dst := some 43, op := Op.call { callee := Callee.value (Operand.func 13), args := #[Operand.tmp 41, Operand.tmp 42], argTypes := #[36, 23] }, type := 22, pos := "law.go:20", after := #[{ on := 0, ground := Ground.data }, { on := 1, ground := Ground.data }], guard := none }) rfl (fun K hK => ?_) ?_
        · go_simp
          go_at_call 13
          refine (Kn.tickN ((HK.out.alloc (.cells #[.int .i64 2, .int .i64 1] 3 (0, 0))).alloc (.cells #[.int .i64 123, .int .i64 456, .int .u64 0, .int .u64 0, .int .i64 0, .int .u64 0, .int .i64 0, .int .i64 0, .int .i64 0, .int .i64 0, .int .i64 0, .int .i64 0, .int .i64 0, .int .i64 0, .int .u64 0] 35 (0, 0))) [2, 1] (HLP.out.alloc (.cells #[.int .i64 123, .int .i64 456, .int .u64 0, .int .u64 0, .int .i64 0, .int .u64 0, .int .i64 0, .int .i64 0, .int .i64 0, .int .i64 0, .int .i64 0, .int .i64 0, .int .i64 0, .int .i64 0, .int .u64 0] 35 (0, 0))) Nt.k_one.1 Nt.k_one.2 (by decide) (by decide)).mono ?_
          rintro e W1 ⟨p1, n1, c1, rfl, ht, hk, htu⟩
          refine hK.out _ _ hk.cells (fun hHeld => ?_)
          clear hK K
          try simp only [Act.put, List.setIfInBounds_toArray, List.set_cons_zero, List.set_cons_succ]
          have hb := HLB.out.kept htu (by have h1 := HK.out.lo; have h2 := HK.out.gh; have h3 := HK.out.hW; simp; omega)
          have hsz : (X.alloc (.cells #[.int .i64 2, .int .i64 1] 3 (0, 0))).heap.size = X.heap.size + 1 := by simp
          rw [hsz] at hb
          generalize W1 = Y at hk ht hb ⊢
          generalize (Value.slice (some ⟨X.heap.size, 0, none⟩) 2 2) = vP
          generalize (Value.slice p1 n1 c1) = vT at ht ⊢
          generalize (Value.slice (some ⟨X.heap.size + 1, 0, none⟩) 1 1) = vB at hb ⊢
          revert hb ht hk
          revert vB vT vP Y
          exact hJ
        exact AllReadyH.nil
      exact AllReadyH.nil
    refine AllReadyH.cons (o := { dst := some 45, op := Op.buildSlice 22 1 #[(0, Operand.tmp 44)], type := 22, pos := "law.go:20", after := #[{ on := 3, ground := Ground.data }], guard := none }) rfl (fun K hK => ?_) ?_
    · go_simp
      refine hK.out _ _ (HK.out.alloc _).cells (fun hHeld => ?_)
      clear hK K
      try simp only [Act.put, List.setIfInBounds_toArray, List.set_cons_zero, List.set_cons_succ]
      have HLB : Hid (LS Lt.cells 15 (X.alloc (.cells #[.int .i64 123, .int .i64 456, .int .u64 0, .int .u64 0, .int .i64 0, .int .u64 0, .int .i64 0, .int .i64 0, .int .i64 0, .int .i64 0, .int .i64 0, .int .i64 0, .int .i64 0, .int .i64 0, .int .u64 0] 35 (0, 0))) (Value.slice (some ⟨X.heap.size, 0, none⟩) 1 1) [Nt.kA]) := Lib.hid (new_lts rfl (by decide) 1 rfl rfl)
      refine wpAnyH_ready (rs := [1]) (by kernel_rfl) (by simp) ?_
      refine AllReadyH.cons (o := { dst := some 42, op := Op.buildSlice 23 2 #[(0, Operand.const (Value.int IntKind.i64 2)), (1, Operand.const (Value.int IntKind.i64 1))], type := 23, pos := "law.go:20", after := #[], guard := none }) rfl (fun K hK => ?_) ?_
      · go_simp
        refine hK.out _ _ ((HK.out.alloc _).alloc _).cells (fun hHeld => ?_)
        clear hK K
        try simp only [Act.put, List.setIfInBounds_toArray, List.set_cons_zero, List.set_cons_succ]
        have HLP : Hid (LS intC 1 ((X.alloc (.cells #[.int .i64 123, .int .i64 456, .int .u64 0, .int .u64 0, .int .i64 0, .int .u64 0, .int .i64 0, .int .i64 0, .int .i64 0, .int .i64 0, .int .i64 0, .int .i64 0, .int .i64 0, .int .i64 0, .int .u64 0] 35 (0, 0))).alloc (.cells #[.int .i64 2, .int .i64 1] 3 (0, 0))) (Value.slice (some ⟨(X.alloc (.cells #[.int .i64 123, .int .i64 456, .int .u64 0, .int .u64 0, .int .i64 0, .int .u64 0, .int .i64 0, .int .i64 0, .int .i64 0, .int .i64 0, .int .i64 0, .int .i64 0, .int .i64 0, .int .i64 0, .int .u64 0] 35 (0, 0))).heap.size, 0, none⟩) 2 2) [2, 1]) := Lib.hid (new_ints (W := X.alloc (.cells #[.int .i64 123, .int .i64 456, .int .u64 0, .int .u64 0, .int .i64 0, .int .u64 0, .int .i64 0, .int .i64 0, .int .i64 0, .int .i64 0, .int .i64 0, .int .i64 0, .int .i64 0, .int .i64 0, .int .u64 0] 35 (0, 0))) rfl (by decide) 2 rfl rfl)
        have hsz : (X.alloc (.cells #[.int .i64 123, .int .i64 456, .int .u64 0, .int .u64 0, .int .i64 0, .int .u64 0, .int .i64 0, .int .i64 0, .int .i64 0, .int .i64 0, .int .i64 0, .int .i64 0, .int .i64 0, .int .i64 0, .int .u64 0] 35 (0, 0))).heap.size = X.heap.size + 1 := by simp
        rw [hsz] at HLP
        refine wpAnyH_ready (rs := [2]) (by kernel_rfl) (by simp) ?_
        refine AllReadyH.cons (o := { dst := some 43, op := Op.call { callee := Callee.value (Operand.func 13), args := #[Operand.tmp 41, Operand.tmp 42], argTypes := #[36, 23] }, type := 22, pos := "law.go:20", after := #[{ on := 0, ground := Ground.data }, { on := 1, ground := Ground.data }], guard := none }) rfl (fun K hK => ?_) ?_
        · go_simp
          go_at_call 13
          refine (Kn.tickN ((HK.out.alloc (.cells #[.int .i64 123, .int .i64 456, .int .u64 0, .int .u64 0, .int .i64 0, .int .u64 0, .int .i64 0, .int .i64 0, .int .i64 0, .int .i64 0, .int .i64 0, .int .i64 0, .int .i64 0, .int .i64 0, .int .u64 0] 35 (0, 0))).alloc (.cells #[.int .i64 2, .int .i64 1] 3 (0, 0))) [2, 1] HLP.out Nt.k_one.1 Nt.k_one.2 (by decide) (by decide)).mono ?_
          rintro e W1 ⟨p1, n1, c1, rfl, ht, hk, htu⟩
          refine hK.out _ _ hk.cells (fun hHeld => ?_)
          clear hK K
          try simp only [Act.put, List.setIfInBounds_toArray, List.set_cons_zero, List.set_cons_succ]
          have hb := (HLB.out.alloc (.cells #[.int .i64 2, .int .i64 1] 3 (0, 0))).kept htu (by have h1 := HK.out.lo; have h2 := HK.out.gh; have h3 := HK.out.hW; simp; omega)
          generalize W1 = Y at hk ht hb ⊢
          generalize (Value.slice (some ⟨X.heap.size + 1, 0, none⟩) 2 2) = vP
          generalize (Value.slice p1 n1 c1) = vT at ht ⊢
          generalize (Value.slice (some ⟨X.heap.size, 0, none⟩) 1 1) = vB at hb ⊢
          revert hb ht hk
          revert vB vT vP Y
          exact hJ
        exact AllReadyH.nil
      exact AllReadyH.nil
    exact AllReadyH.nil
  case k1 =>
    intro Y vP vT vB hk ht hb
    have hHeld : Kn.S w Y := hk.cells
    refine wpAnyH_ready (rs := [5]) (by kernel_rfl) (by simp) ?_
    refine AllReadyH.cons (o := { dst := some 46, op := Op.call { callee := Callee.value (Operand.func 26), args := #[Operand.tmp 43, Operand.tmp 45], argTypes := #[22, 22] }, type := 4, pos := "law.go:20", after := #[{ on := 2, ground := Ground.data }, { on := 4, ground := Ground.data }, { on := 2, ground := Ground.chain }], guard := none }) rfl (fun K hK => ?_) ?_
    · go_simp
      go_at_call 26
      refine (rSame_of true (by simp) ht hb).mono ?_
      rintro e Z1 ⟨rfl, hbw⟩
      have HK := Lib.hid (hk.turn0 hbw)
      refine hK.out _ _ HK.out.cells (fun hHeld => ?_)
      clear hK K
      try simp only [Act.put, List.setIfInBounds_toArray, List.set_cons_zero, List.set_cons_succ]
      clear ht hb hk hbw
      refine wpAnyH_take (i := 6) (oi := { dst := some 47, op := Op.move (Operand.tmp 46), type := 4, pos := "law.go:20", after := #[{ on := 5, ground := Ground.data }, { on := 5, ground := Ground.chain }], guard := none }) (v := ?_) rfl (by kernel_rfl) (by kernel_rfl) (by kernel_rfl) (fun _ _ _ h => h) (Or.inl ⟨by rfl, ?_⟩) (by assumption) ?_
      rotate_left
      · intro w hSw; (try dsimp only [Kn.S] at hSw); go_simp; try with_reducible rfl
      try simp only [Act.put, List.setIfInBounds_toArray, List.set_cons_zero, List.set_cons_succ]
      refine wpAnyH_take (i := 7) (oi := { dst := some 48, op := Op.move (Operand.tmp 3), type := 36, pos := "law.go:20", after := #[{ on := 6, ground := Ground.guard }], guard := some (6, true) }) (v := ?_) rfl (by kernel_rfl) (by kernel_rfl) (by kernel_rfl) (fun _ _ _ h => h) (Or.inl ⟨by rfl, ?_⟩) (by assumption) ?_
      rotate_left
      · intro w hSw; (try dsimp only [Kn.S] at hSw); go_simp; try with_reducible rfl
      try simp only [Act.put, List.setIfInBounds_toArray, List.set_cons_zero, List.set_cons_succ]
      refine wpAnyH_take (i := 10) (oi := { dst := some 51, op := Op.load 35 (Operand.tmp 2), type := 35, pos := "law.go:20", after := #[{ on := 6, ground := Ground.guard }], guard := some (6, true) }) (v := ?_) rfl (by kernel_rfl) (by kernel_rfl) (by kernel_rfl) (fun _ _ _ h => h) (Or.inl ⟨by rfl, ?_⟩) (by assumption) ?_
      rotate_left
      · intro w hSw; (try dsimp only [Kn.S] at hSw); go_simp; try with_reducible rfl
      try simp only [Act.put, List.setIfInBounds_toArray, List.set_cons_zero, List.set_cons_succ]
      refine cutJ (J := ?J2) ?h2 ?k2
      case h2 =>
        intro hJ
        refine wpAnyH_ready (rs := [8, 11]) (by kernel_rfl) (by simp) ?_
        refine AllReadyH.cons (o := { dst := some 49, op := Op.buildSlice 23 2 #[(0, Operand.const (Value.int IntKind.i64 3)), (1, Operand.const (Value.int IntKind.i64 1))], type := 23, pos := "law.go:20", after := #[{ on := 6, ground := Ground.guard }], guard := some (6, true) }) rfl (fun K hK => ?_) ?_
        · go_simp
          refine hK.out _ _ (HK.out.alloc _).cells (fun hHeld => ?_)
          clear hK K
          try simp only [Act.put, List.setIfInBounds_toArray, List.set_cons_zero, List.set_cons_succ]
          have HLP : Hid (LS intC 1 (Z1.alloc (.cells #[.int .i64 3, .int .i64 1] 3 (0, 0))) (Value.slice (some ⟨Z1.heap.size, 0, none⟩) 2 2) [3, 1]) := Lib.hid (new_ints rfl (by decide) 2 rfl rfl)
          refine wpAnyH_ready (rs := [9, 11]) (by kernel_rfl) (by simp) ?_
          refine AllReadyH.cons (o := { dst := some 50, op := Op.call { callee := Callee.value (Operand.func 13), args := #[Operand.tmp 48, Operand.tmp 49], argTypes := #[36, 23] }, type := 22, pos := "law.go:20", after := #[{ on := 7, ground := Ground.data }, { on := 8, ground := Ground.data }, { on := 6, ground := Ground.chain }, { on := 6, ground := Ground.guard }], guard := some (6, true) }) rfl (fun K hK => ?_) ?_
          · go_simp
            go_at_call 13
            refine (Kn.tickN (HK.out.alloc (.cells #[.int .i64 3, .int .i64 1] 3 (0, 0))) [3, 1] HLP.out Nt.k_two.1 Nt.k_two.2 (by decide) (by decide)).mono ?_
            rintro e W2 ⟨p1, n1, c1, rfl, ht, hk, htu⟩
            refine hK.out _ _ hk.cells (fun hHeld => ?_)
            clear hK K
            try simp only [Act.put, List.setIfInBounds_toArray, List.set_cons_zero, List.set_cons_succ]
            refine wpAnyH_ready (rs := [11]) (by kernel_rfl) (by simp) ?_
            refine AllReadyH.cons (o := { dst := some 52, op := Op.buildSlice 22 1 #[(0, Operand.tmp 51)], type := 22, pos := "law.go:20", after := #[{ on := 10, ground := Ground.data }, { on := 6, ground := Ground.guard }], guard := some (6, true) }) rfl (fun K hK => ?_) ?_
            · go_simp
              refine hK.out _ _ (hk.alloc _).cells (fun hHeld => ?_)
              clear hK K
              try simp only [Act.put, List.setIfInBounds_toArray, List.set_cons_zero, List.set_cons_succ]
              have hb : LS Lt.cells 15 (W2.alloc (.cells #[.int .i64 456, .int .i64 123, .int .u64 0, .int .u64 0, .int .i64 0, .int .u64 0, .int .i64 0, .int .i64 0, .int .i64 0, .int .i64 0, .int .i64 0, .int .i64 0, .int .i64 0, .int .i64 0, .int .u64 0] 35 (0, 0))) (Value.slice (some ⟨W2.heap.size, 0, none⟩) 1 1) [Nt.kB] := new_lts rfl (by decide) 1 rfl rfl
              have hk := hk.alloc (.cells #[.int .i64 456, .int .i64 123, .int .u64 0, .int .u64 0, .int .i64 0, .int .u64 0, .int .i64 0, .int .i64 0, .int .i64 0, .int .i64 0, .int .i64 0, .int .i64 0, .int .i64 0, .int .i64 0, .int .u64 0] 35 (0, 0))
              have ht := ht.alloc (.cells #[.int .i64 456, .int .i64 123, .int .u64 0, .int .u64 0, .int .i64 0, .int .u64 0, .int .i64 0, .int .i64 0, .int .i64 0, .int .i64 0, .int .i64 0, .int .i64 0, .int .i64 0, .int .i64 0, .int .u64 0] 35 (0, 0))
              generalize (W2.alloc (.cells #[.int .i64 456, .int .i64 123, .int .u64 0, .int .u64 0, .int .i64 0, .int .u64 0, .int .i64 0, .int .i64 0, .int .i64 0, .int .i64 0, .int .i64 0, .int .i64 0, .int .i64 0, .int .i64 0, .int .u64 0] 35 (0, 0))) = Y at hk ht hb ⊢
              generalize (Value.slice (some ⟨Z1.heap.size, 0, none⟩) 2 2) = vP
              generalize (Value.slice p1 n1 c1) = vT at ht ⊢
              generalize (Value.slice (some ⟨W2.heap.size, 0, none⟩) 1 1) = vB at hb ⊢
              revert hb ht hk
              revert vB vT vP Y
              exact hJ
            exact AllReadyH.nil
          refine AllReadyH.cons (o := { dst := some 52, op := Op.buildSlice 22 1 #[(0, Operand.tmp 51)], type := 22, pos := "law.go:20", after := #[{ on := 10, ground := Ground.data }, { on := 6, ground := Ground.guard }], guard := some (6, true) }) rfl (fun K hK => ?_) ?_
          · go_simp
            refine hK.out _ _ ((HK.out.alloc _).alloc _).cells (fun hHeld => ?_)
            clear hK K
            try simp only [Act.put, List.setIfInBounds_toArray, List.set_cons_zero, List.set_cons_succ]
            have HLB : Hid (LS Lt.cells 15 ((Z1.alloc (.cells #[.int .i64 3, .int .i64 1] 3 (0, 0))).alloc (.cells #[.int .i64 456, .int .i64 123, .int .u64 0, .int .u64 0, .int .i64 0, .int .u64 0, .int .i64 0, .int .i64 0, .int .i64 0, .int .i64 0, .int .i64 0, .int .i64 0, .int .i64 0, .int .i64 0, .int .u64 0] 35 (0, 0))) (Value.slice (some ⟨(Z1.alloc (.cells #[.int .i64 3, .int .i64 1] 3 (0, 0))).heap.size, 0, none⟩) 1 1) [Nt.kB]) := Lib.hid (new_lts (W := Z1.alloc (.cells #[.int .i64 3, .int .i64 1] 3 (0, 0))) rfl (by decide) 1 rfl rfl)
            refine wpAnyH_ready (rs := [9]) (by kernel_rfl) (by simp) ?_
            refine AllReadyH.cons (o := { dst := some 50, op := Op.call { callee := Callee.value (Operand.func 13), args := #[Operand.tmp 48, Operand.tmp 49], argTypes := #[36, 23] }, type := 22, pos := "law.go:20", after := #[{ on := 7, ground := Ground.data }, { on := 8, ground := Ground.data }, { on := 6, ground := Ground.chain }, { on := 6, ground := Ground.guard }], guard := some (6, true) }) rfl (fun K hK => ?_) ?_
            · go_simp
              go_at_call 13
              refine (Kn.tickN ((HK.out.alloc (.cells #[.int .i64 3, .int .i64 1] 3 (0, 0))).alloc (.cells #[.int .i64 456, .int .i64 123, .int .u64 0, .int .u64 0, .int .i64 0, .int .u64 0, .int .i64 0, .int .i64 0, .int .i64 0, .int .i64 0, .int .i64 0, .int .i64 0, .int .i64 0, .int .i64 0, .int .u64 0] 35 (0, 0))) [3, 1] (HLP.out.alloc (.cells #[.int .i64 456, .int .i64 123, .int .u64 0, .int .u64 0, .int .i64 0, .int .u64 0, .int .i64 0, .int .i64 0, .int .i64 0, .int .i64 0, .int .i64 0, .int .i64 0, .int .i64 0, .int .i64 0, .int .u64 0] 35 (0, 0))) Nt.k_two.1 Nt.k_two.2 (by decide) (by decide)).mono ?_
              rintro e W2 ⟨p1, n1, c1, rfl, ht, hk, htu⟩
              refine hK.out _ _ hk.cells (fun hHeld => ?_)
              clear hK K
              try simp only [Act.put, List.setIfInBounds_toArray, List.set_cons_zero, List.set_cons_succ]
              have hb := HLB.out.kept htu (by have h1 := HK.out.lo; have h2 := HK.out.gh; have h3 := HK.out.hW; simp; omega)
              have hsz : (Z1.alloc (.cells #[.int .i64 3, .int .i64 1] 3 (0, 0))).heap.size = Z1.heap.size + 1 := by simp
              rw [hsz] at hb
              generalize W2 = Y at hk ht hb ⊢
              generalize (Value.slice (some ⟨Z1.heap.size, 0, none⟩) 2 2) = vP
              generalize (Value.slice p1 n1 c1) = vT at ht ⊢
              generalize (Value.slice (some ⟨Z1.heap.size + 1, 0, none⟩) 1 1) = vB at hb ⊢
              revert hb ht hk
              revert vB vT vP Y
              exact hJ
            exact AllReadyH.nil
          exact AllReadyH.nil
        refine AllReadyH.cons (o := { dst := some 52, op := Op.buildSlice 22 1 #[(0, Operand.tmp 51)], type := 22, pos := "law.go:20", after := #[{ on := 10, ground := Ground.data }, { on := 6, ground := Ground.guard }], guard := some (6, true) }) rfl (fun K hK => ?_) ?_
        · go_simp
          refine hK.out _ _ (HK.out.alloc _).cells (fun hHeld => ?_)
          clear hK K
          try simp only [Act.put, List.setIfInBounds_toArray, List.set_cons_zero, List.set_cons_succ]
          have HLB : Hid (LS Lt.cells 15 (Z1.alloc (.cells #[.int .i64 456, .int .i64 123, .int .u64 0, .int .u64 0, .int .i64 0, .int .u64 0, .int .i64 0, .int .i64 0, .int .i64 0, .int .i64 0, .int .i64 0, .int .i64 0, .int .i64 0, .int .i64 0, .int .u64 0] 35 (0, 0))) (Value.slice (some ⟨Z1.heap.size, 0, none⟩) 1 1) [Nt.kB]) := Lib.hid (new_lts rfl (by decide) 1 rfl rfl)
          refine wpAnyH_ready (rs := [8]) (by kernel_rfl) (by simp) ?_
          refine AllReadyH.cons (o := { dst := some 49, op := Op.buildSlice 23 2 #[(0, Operand.const (Value.int IntKind.i64 3)), (1, Operand.const (Value.int IntKind.i64 1))], type := 23, pos := "law.go:20", after := #[{ on := 6, ground := Ground.guard }], guard := some (6, true) }) rfl (fun K hK => ?_) ?_
          · go_simp
            refine hK.out _ _ ((HK.out.alloc _).alloc _).cells (fun hHeld => ?_)
            clear hK K
            try simp only [Act.put, List.setIfInBounds_toArray, List.set_cons_zero, List.set_cons_succ]
            have HLP : Hid (LS intC 1 ((Z1.alloc (.cells #[.int .i64 456, .int .i64 123, .int .u64 0, .int .u64 0, .int .i64 0, .int .u64 0, .int .i64 0, .int .i64 0, .int .i64 0, .int .i64 0, .int .i64 0, .int .i64 0, .int .i64 0, .int .i64 0, .int .u64 0] 35 (0, 0))).alloc (.cells #[.int .i64 3, .int .i64 1] 3 (0, 0))) (Value.slice (some ⟨(Z1.alloc (.cells #[.int .i64 456, .int .i64 123, .int .u64 0, .int .u64 0, .int .i64 0, .int .u64 0, .int .i64 0, .int .i64 0, .int .i64 0, .int .i64 0, .int .i64 0, .int .i64 0, .int .i64 0, .int .i64 0, .int .u64 0] 35 (0, 0))).heap.size, 0, none⟩) 2 2) [3, 1]) := Lib.hid (new_ints (W := Z1.alloc (.cells #[.int .i64 456, .int .i64 123, .int .u64 0, .int .u64 0, .int .i64 0, .int .u64 0, .int .i64 0, .int .i64 0, .int .i64 0, .int .i64 0, .int .i64 0, .int .i64 0, .int .i64 0, .int .i64 0, .int .u64 0] 35 (0, 0))) rfl (by decide) 2 rfl rfl)
            have hsz : (Z1.alloc (.cells #[.int .i64 456, .int .i64 123, .int .u64 0, .int .u64 0, .int .i64 0, .int .u64 0, .int .i64 0, .int .i64 0, .int .i64 0, .int .i64 0, .int .i64 0, .int .i64 0, .int .i64 0, .int .i64 0, .int .u64 0] 35 (0, 0))).heap.size = Z1.heap.size + 1 := by simp
            rw [hsz] at HLP
            refine wpAnyH_ready (rs := [9]) (by kernel_rfl) (by simp) ?_
            refine AllReadyH.cons (o := { dst := some 50, op := Op.call { callee := Callee.value (Operand.func 13), args := #[Operand.tmp 48, Operand.tmp 49], argTypes := #[36, 23] }, type := 22, pos := "law.go:20", after := #[{ on := 7, ground := Ground.data }, { on := 8, ground := Ground.data }, { on := 6, ground := Ground.chain }, { on := 6, ground := Ground.guard }], guard := some (6, true) }) rfl (fun K hK => ?_) ?_
            · go_simp
              go_at_call 13
              refine (Kn.tickN ((HK.out.alloc (.cells #[.int .i64 456, .int .i64 123, .int .u64 0, .int .u64 0, .int .i64 0, .int .u64 0, .int .i64 0, .int .i64 0, .int .i64 0, .int .i64 0, .int .i64 0, .int .i64 0, .int .i64 0, .int .i64 0, .int .u64 0] 35 (0, 0))).alloc (.cells #[.int .i64 3, .int .i64 1] 3 (0, 0))) [3, 1] HLP.out Nt.k_two.1 Nt.k_two.2 (by decide) (by decide)).mono ?_
              rintro e W2 ⟨p1, n1, c1, rfl, ht, hk, htu⟩
              refine hK.out _ _ hk.cells (fun hHeld => ?_)
              clear hK K
              try simp only [Act.put, List.setIfInBounds_toArray, List.set_cons_zero, List.set_cons_succ]
              have hb := (HLB.out.alloc (.cells #[.int .i64 3, .int .i64 1] 3 (0, 0))).kept htu (by have h1 := HK.out.lo; have h2 := HK.out.gh; have h3 := HK.out.hW; simp; omega)
              generalize W2 = Y at hk ht hb ⊢
              generalize (Value.slice (some ⟨Z1.heap.size + 1, 0, none⟩) 2 2) = vP
              generalize (Value.slice p1 n1 c1) = vT at ht ⊢
              generalize (Value.slice (some ⟨Z1.heap.size, 0, none⟩) 1 1) = vB at hb ⊢
              revert hb ht hk
              revert vB vT vP Y
              exact hJ
            exact AllReadyH.nil
          exact AllReadyH.nil
        exact AllReadyH.nil
      case k2 =>
        intro Y vP vT vB hk ht hb
        have hHeld : Kn.S w Y := hk.cells
        refine wpAnyH_ready (rs := [12]) (by kernel_rfl) (by simp) ?_
        refine AllReadyH.cons (o := { dst := some 53, op := Op.call { callee := Callee.value (Operand.func 26), args := #[Operand.tmp 50, Operand.tmp 52], argTypes := #[22, 22] }, type := 4, pos := "law.go:20", after := #[{ on := 9, ground := Ground.data }, { on := 11, ground := Ground.data }, { on := 9, ground := Ground.chain }, { on := 6, ground := Ground.guard }], guard := some (6, true) }) rfl (fun K hK => ?_) ?_
        · go_simp
          go_at_call 26
          refine (rSame_of true (by simp) ht hb).mono ?_
          rintro e Z2 ⟨rfl, hbw⟩
          have HK := Lib.hid (hk.turn0 hbw)
          refine hK.out _ _ HK.out.cells (fun hHeld => ?_)
          clear hK K
          try simp only [Act.put, List.setIfInBounds_toArray, List.set_cons_zero, List.set_cons_succ]
          clear ht hb hk hbw
          refine wpAnyH_take (i := 13) (oi := { dst := some 54, op := Op.pick (Operand.tmp 47) (Operand.tmp 53) (Operand.const (Value.bool false)), type := 4, pos := "law.go:20", after := #[{ on := 6, ground := Ground.data }, { on := 12, ground := Ground.data }], guard := none }) (v := ?_) rfl (by kernel_rfl) (by kernel_rfl) (by kernel_rfl) (fun _ _ _ h => h) (Or.inl ⟨by rfl, ?_⟩) (by assumption) ?_
          rotate_left
          · intro w hSw; (try dsimp only [Kn.S] at hSw); go_simp; try with_reducible rfl
          try simp only [Act.put, List.setIfInBounds_toArray, List.set_cons_zero, List.set_cons_succ]
          refine wpAnyH_take (i := 14) (oi := { dst := some 55, op := Op.move (Operand.tmp 54), type := 4, pos := "law.go:20", after := #[{ on := 13, ground := Ground.data }, { on := 12, ground := Ground.chain }], guard := none }) (v := ?_) rfl (by kernel_rfl) (by kernel_rfl) (by kernel_rfl) (fun _ _ _ h => h) (Or.inl ⟨by rfl, ?_⟩) (by assumption) ?_
          rotate_left
          · intro w hSw; (try dsimp only [Kn.S] at hSw); go_simp; try with_reducible rfl
          try simp only [Act.put, List.setIfInBounds_toArray, List.set_cons_zero, List.set_cons_succ]
          refine wpAnyH_take (i := 15) (oi := { dst := some 56, op := Op.move (Operand.tmp 5), type := 36, pos := "law.go:20", after := #[{ on := 14, ground := Ground.guard }], guard := some (14, true) }) (v := ?_) rfl (by kernel_rfl) (by kernel_rfl) (by kernel_rfl) (fun _ _ _ h => h) (Or.inl ⟨by rfl, ?_⟩) (by assumption) ?_
          rotate_left
          · intro w hSw; (try dsimp only [Kn.S] at hSw); go_simp; try with_reducible rfl
          try simp only [Act.put, List.setIfInBounds_toArray, List.set_cons_zero, List.set_cons_succ]
          refine wpAnyH_take (i := 18) (oi := { dst := some 59, op := Op.load 35 (Operand.tmp 2), type := 35, pos := "law.go:20", after := #[{ on := 14, ground := Ground.guard }], guard := some (14, true) }) (v := ?_) rfl (by kernel_rfl) (by kernel_rfl) (by kernel_rfl) (fun _ _ _ h => h) (Or.inl ⟨by rfl, ?_⟩) (by assumption) ?_
          rotate_left
          · intro w hSw; (try dsimp only [Kn.S] at hSw); go_simp; try with_reducible rfl
          try simp only [Act.put, List.setIfInBounds_toArray, List.set_cons_zero, List.set_cons_succ]
          refine wpAnyH_take (i := 19) (oi := { dst := some 60, op := Op.load 35 (Operand.tmp 1), type := 35, pos := "law.go:20", after := #[{ on := 14, ground := Ground.guard }], guard := some (14, true) }) (v := ?_) rfl (by kernel_rfl) (by kernel_rfl) (by kernel_rfl) (fun _ _ _ h => h) (Or.inl ⟨by rfl, ?_⟩) (by assumption) ?_
          rotate_left
          · intro w hSw; (try dsimp only [Kn.S] at hSw); go_simp; try with_reducible rfl
          try simp only [Act.put, List.setIfInBounds_toArray, List.set_cons_zero, List.set_cons_succ]
          refine cutJ (J := ?J3) ?h3 ?k3
          case h3 =>
            intro hJ
            refine wpAnyH_ready (rs := [16, 20]) (by kernel_rfl) (by simp) ?_
            refine AllReadyH.cons (o := { dst := some 57, op := Op.buildSlice 23 2 #[(0, Operand.const (Value.int IntKind.i64 4)), (1, Operand.const (Value.int IntKind.i64 3))], type := 23, pos := "law.go:20", after := #[{ on := 14, ground := Ground.guard }], guard := some (14, true) }) rfl (fun K hK => ?_) ?_
            · go_simp
              refine hK.out _ _ (HK.out.alloc _).cells (fun hHeld => ?_)
              clear hK K
              try simp only [Act.put, List.setIfInBounds_toArray, List.set_cons_zero, List.set_cons_succ]
              have HLP : Hid (LS intC 1 (Z2.alloc (.cells #[.int .i64 4, .int .i64 3] 3 (0, 0))) (Value.slice (some ⟨Z2.heap.size, 0, none⟩) 2 2) [4, 3]) := Lib.hid (new_ints rfl (by decide) 2 rfl rfl)
              refine wpAnyH_ready (rs := [17, 20]) (by kernel_rfl) (by simp) ?_
              refine AllReadyH.cons (o := { dst := some 58, op := Op.call { callee := Callee.value (Operand.func 13), args := #[Operand.tmp 56, Operand.tmp 57], argTypes := #[36, 23] }, type := 22, pos := "law.go:20", after := #[{ on := 15, ground := Ground.data }, { on := 16, ground := Ground.data }, { on := 14, ground := Ground.chain }, { on := 14, ground := Ground.guard }], guard := some (14, true) }) rfl (fun K hK => ?_) ?_
              · go_simp
                go_at_call 13
                refine (Kn.tickM (HK.out.alloc (.cells #[.int .i64 4, .int .i64 3] 3 (0, 0))) [4, 3] HLP.out Nt.k_three.1 Nt.k_three.2 (by decide) (by decide)).mono ?_
                rintro e W3 ⟨p1, n1, c1, rfl, ht, hk, htu⟩
                refine hK.out _ _ hk.cells (fun hHeld => ?_)
                clear hK K
                try simp only [Act.put, List.setIfInBounds_toArray, List.set_cons_zero, List.set_cons_succ]
                refine wpAnyH_ready (rs := [20]) (by kernel_rfl) (by simp) ?_
                refine AllReadyH.cons (o := { dst := some 61, op := Op.buildSlice 22 2 #[(0, Operand.tmp 59), (1, Operand.tmp 60)], type := 22, pos := "law.go:20", after := #[{ on := 18, ground := Ground.data }, { on := 19, ground := Ground.data }, { on := 14, ground := Ground.guard }], guard := some (14, true) }) rfl (fun K hK => ?_) ?_
                · go_simp
                  refine hK.out _ _ (hk.alloc _).cells (fun hHeld => ?_)
                  clear hK K
                  try simp only [Act.put, List.setIfInBounds_toArray, List.set_cons_zero, List.set_cons_succ]
                  have hb : LS Lt.cells 15 (W3.alloc (.cells #[.int .i64 456, .int .i64 123, .int .u64 0, .int .u64 0, .int .i64 0, .int .u64 0, .int .i64 0, .int .i64 0, .int .i64 0, .int .i64 0, .int .i64 0, .int .i64 0, .int .i64 0, .int .i64 0, .int .u64 0, .int .i64 123, .int .i64 456, .int .u64 0, .int .u64 0, .int .i64 0, .int .u64 0, .int .i64 0, .int .i64 0, .int .i64 0, .int .i64 0, .int .i64 0, .int .i64 0, .int .i64 0, .int .i64 0, .int .u64 0] 35 (0, 0))) (Value.slice (some ⟨W3.heap.size, 0, none⟩) 2 2) [Nt.kB, Nt.kA] := new_lts rfl (by decide) 2 rfl rfl
                  have hk := hk.alloc (.cells #[.int .i64 456, .int .i64 123, .int .u64 0, .int .u64 0, .int .i64 0, .int .u64 0, .int .i64 0, .int .i64 0, .int .i64 0, .int .i64 0, .int .i64 0, .int .i64 0, .int .i64 0, .int .i64 0, .int .u64 0, .int .i64 123, .int .i64 456, .int .u64 0, .int .u64 0, .int .i64 0, .int .u64 0, .int .i64 0, .int .i64 0, .int .i64 0, .int .i64 0, .int .i64 0, .int .i64 0, .int .i64 0, .int .i64 0, .int .u64 0] 35 (0, 0))
                  have ht := ht.alloc (.cells #[.int .i64 456, .int .i64 123, .int .u64 0, .int .u64 0, .int .i64 0, .int .u64 0, .int .i64 0, .int .i64 0, .int .i64 0, .int .i64 0, .int .i64 0, .int .i64 0, .int .i64 0, .int .i64 0, .int .u64 0, .int .i64 123, .int .i64 456, .int .u64 0, .int .u64 0, .int .i64 0, .int .u64 0, .int .i64 0, .int .i64 0, .int .i64 0, .int .i64 0, .int .i64 0, .int .i64 0, .int .i64 0, .int .i64 0, .int .u64 0] 35 (0, 0))
                  generalize (W3.alloc (.cells #[.int .i64 456, .int .i64 123, .int .u64 0, .int .u64 0, .int .i64 0, .int .u64 0, .int .i64 0, .int .i64 0, .int .i64 0, .int .i64 0, .int .i64 0, .int .i64 0, .int .i64 0, .int .i64 0, .int .u64 0, .int .i64 123, .int .i64 456, .int .u64 0, .int .u64 0, .int .i64 0, .int .u64 0, .int .i64 0, .int .i64 0, .int .i64 0, .int .i64 0, .int .i64 0, .int .i64 0, .int .i64 0, .int .i64 0, .int .u64 0] 35 (0, 0))) = Y at hk ht hb ⊢
                  generalize (Value.slice (some ⟨Z2.heap.size, 0, none⟩) 2 2) = vP
                  generalize (Value.slice p1 n1 c1) = vT at ht ⊢
                  generalize (Value.slice (some ⟨W3.heap.size, 0, none⟩) 2 2) = vB at hb ⊢
                  revert hb ht hk
                  revert vB vT vP Y
                  exact hJ
                exact AllReadyH.nil
              refine AllReadyH.cons (o := { dst := some 61, op := Op.buildSlice 22 2 #[(0, Operand.tmp 59), (1, Operand.tmp 60)], type := 22, pos := "law.go:20", after := #[{ on := 18, ground := Ground.data }, { on := 19, ground := Ground.data }, { on := 14, ground := Ground.guard }], guard := some (14, true) }) rfl (fun K hK => ?_) ?_
              · go_simp
                refine hK.out _ _ ((HK.out.alloc _).alloc _).cells (fun hHeld => ?_)
                clear hK K
                try simp only [Act.put, List.setIfInBounds_toArray, List.set_cons_zero, List.set_cons_succ]
                have HLB : Hid (LS Lt.cells 15 ((Z2.alloc (.cells #[.int .i64 4, .int .i64 3] 3 (0, 0))).alloc (.cells #[.int .i64 456, .int .i64 123, .int .u64 0, .int .u64 0, .int .i64 0, .int .u64 0, .int .i64 0, .int .i64 0, .int .i64 0, .int .i64 0, .int .i64 0, .int .i64 0, .int .i64 0, .int .i64 0, .int .u64 0, .int .i64 123, .int .i64 456, .int .u64 0, .int .u64 0, .int .i64 0, .int .u64 0, .int .i64 0, .int .i64 0, .int .i64 0, .int .i64 0, .int .i64 0, .int .i64 0, .int .i64 0, .int .i64 0, .int .u64 0] 35 (0, 0))) (Value.slice (some ⟨(Z2.alloc (.cells #[.int .i64 4, .int .i64 3] 3 (0, 0))).heap.size, 0, none⟩) 2 2) [Nt.kB, Nt.kA]) := Lib.hid (new_lts (W := Z2.alloc (.cells #[.int .i64 4, .int .i64 3] 3 (0, 0))) rfl (by decide) 2 rfl rfl)
                refine wpAnyH_ready (rs := [17]) (by kernel_rfl) (by simp) ?_
                refine AllReadyH.cons (o := { dst := some 58, op := Op.call { callee := Callee.value (Operand.func 13), args := #[Operand.tmp 56, Operand.tmp 57], argTypes := #[36, 23] }, type := 22, pos := "law.go:20", after := #[{ on := 15, ground := Ground.data }, { on := 16, ground := Ground.data }, { on := 14, ground := Ground.chain }, { on := 14, ground := Ground.guard }], guard := some (14, true) }) rfl (fun K hK => ?_) ?_
                · go_simp
                  go_at_call 13
                  refine (Kn.tickM ((HK.out.alloc (.cells #[.int .i64 4, .int .i64 3] 3 (0, 0))).alloc (.cells #[.int .i64 456, .int .i64 123, .int .u64 0, .int .u64 0, .int .i64 0, .int .u64 0, .int .i64 0, .int .i64 0, .int .i64 0, .int .i64 0, .int .i64 0, .int .i64 0, .int .i64 0, .int .i64 0, .int .u64 0, .int .i64 123, .int .i64 456, .int .u64 0, .int .u64 0, .int .i64 0, .int .u64 0, .int .i64 0, .int .i64 0, .int .i64 0, .int .i64 0, .int .i64 0, .int .i64 0, .int .i64 0, .int .i64 0, .int .u64 0] 35 (0, 0))) [4, 3] (HLP.out.alloc (.cells #[.int .i64 456, .int .i64 123, .int .u64 0, .int .u64 0, .int .i64 0, .int .u64 0, .int .i64 0, .int .i64 0, .int .i64 0, .int .i64 0, .int .i64 0, .int .i64 0, .int .i64 0, .int .i64 0, .int .u64 0, .int .i64 123, .int .i64 456, .int .u64 0, .int .u64 0, .int .i64 0, .int .u64 0, .int .i64 0, .int .i64 0, .int .i64 0, .int .i64 0, .int .i64 0, .int .i64 0, .int .i64 0, .int .i64 0, .int .u64 0] 35 (0, 0))) Nt.k_three.1 Nt.k_three.2 (by decide) (by decide)).mono ?_
                  rintro e W3 ⟨p1, n1, c1, rfl, ht, hk, htu⟩
                  refine hK.out _ _ hk.cells (fun hHeld => ?_)
                  clear hK K
                  try simp only [Act.put, List.setIfInBounds_toArray, List.set_cons_zero, List.set_cons_succ]
                  have hb := HLB.out.kept htu (by have h1 := HK.out.lo; have h2 := HK.out.gh; have h3 := HK.out.hW; simp; omega)
                  have hsz : (Z2.alloc (.cells #[.int .i64 4, .int .i64 3] 3 (0, 0))).heap.size = Z2.heap.size + 1 := by simp
                  rw [hsz] at hb
                  generalize W3 = Y at hk ht hb ⊢
                  generalize (Value.slice (some ⟨Z2.heap.size, 0, none⟩) 2 2) = vP
                  generalize (Value.slice p1 n1 c1) = vT at ht ⊢
                  generalize (Value.slice (some ⟨Z2.heap.size + 1, 0, none⟩) 2 2) = vB at hb ⊢
                  revert hb ht hk
                  revert vB vT vP Y
                  exact hJ
                exact AllReadyH.nil
              exact AllReadyH.nil
            refine AllReadyH.cons (o := { dst := some 61, op := Op.buildSlice 22 2 #[(0, Operand.tmp 59), (1, Operand.tmp 60)], type := 22, pos := "law.go:20", after := #[{ on := 18, ground := Ground.data }, { on := 19, ground := Ground.data }, { on := 14, ground := Ground.guard }], guard := some (14, true) }) rfl (fun K hK => ?_) ?_
            · go_simp
              refine hK.out _ _ (HK.out.alloc _).cells (fun hHeld => ?_)
              clear hK K
              try simp only [Act.put, List.setIfInBounds_toArray, List.set_cons_zero, List.set_cons_succ]
              have HLB : Hid (LS Lt.cells 15 (Z2.alloc (.cells #[.int .i64 456, .int .i64 123, .int .u64 0, .int .u64 0, .int .i64 0, .int .u64 0, .int .i64 0, .int .i64 0, .int .i64 0, .int .i64 0, .int .i64 0, .int .i64 0, .int .i64 0, .int .i64 0, .int .u64 0, .int .i64 123, .int .i64 456, .int .u64 0, .int .u64 0, .int .i64 0, .int .u64 0, .int .i64 0, .int .i64 0, .int .i64 0, .int .i64 0, .int .i64 0, .int .i64 0, .int .i64 0, .int .i64 0, .int .u64 0] 35 (0, 0))) (Value.slice (some ⟨Z2.heap.size, 0, none⟩) 2 2) [Nt.kB, Nt.kA]) := Lib.hid (new_lts rfl (by decide) 2 rfl rfl)
              refine wpAnyH_ready (rs := [16]) (by kernel_rfl) (by simp) ?_
              refine AllReadyH.cons (o := { dst := some 57, op := Op.buildSlice 23 2 #[(0, Operand.const (Value.int IntKind.i64 4)), (1, Operand.const (Value.int IntKind.i64 3))], type := 23, pos := "law.go:20", after := #[{ on := 14, ground := Ground.guard }], guard := some (14, true) }) rfl (fun K hK => ?_) ?_
              · go_simp
                refine hK.out _ _ ((HK.out.alloc _).alloc _).cells (fun hHeld => ?_)
                clear hK K
                try simp only [Act.put, List.setIfInBounds_toArray, List.set_cons_zero, List.set_cons_succ]
                have HLP : Hid (LS intC 1 ((Z2.alloc (.cells #[.int .i64 456, .int .i64 123, .int .u64 0, .int .u64 0, .int .i64 0, .int .u64 0, .int .i64 0, .int .i64 0, .int .i64 0, .int .i64 0, .int .i64 0, .int .i64 0, .int .i64 0, .int .i64 0, .int .u64 0, .int .i64 123, .int .i64 456, .int .u64 0, .int .u64 0, .int .i64 0, .int .u64 0, .int .i64 0, .int .i64 0, .int .i64 0, .int .i64 0, .int .i64 0, .int .i64 0, .int .i64 0, .int .i64 0, .int .u64 0] 35 (0, 0))).alloc (.cells #[.int .i64 4, .int .i64 3] 3 (0, 0))) (Value.slice (some ⟨(Z2.alloc (.cells #[.int .i64 456, .int .i64 123, .int .u64 0, .int .u64 0, .int .i64 0, .int .u64 0, .int .i64 0, .int .i64 0, .int .i64 0, .int .i64 0, .int .i64 0, .int .i64 0, .int .i64 0, .int .i64 0, .int .u64 0, .int .i64 123, .int .i64 456, .int .u64 0, .int .u64 0, .int .i64 0, .int .u64 0, .int .i64 0, .int .i64 0, .int .i64 0, .int .i64 0, .int .i64 0, .int .i64 0, .int .i64 0, .int .i64 0, .int .u64 0] 35 (0, 0))).heap.size, 0, none⟩) 2 2) [4, 3]) := Lib.hid (new_ints (W := Z2.alloc (.cells #[.int .i64 456, .int .i64 123, .int .u64 0, .int .u64 0, .int .i64 0, .int .u64 0, .int .i64 0, .int .i64 0, .int .i64 0, .int .i64 0, .int .i64 0, .int .i64 0, .int .i64 0, .int .i64 0, .int .u64 0, .int .i64 123, .int .i64 456, .int .u64 0, .int .u64 0, .int .i64 0, .int .u64 0, .int .i64 0, .int .i64 0, .int .i64 0, .int .i64 0, .int .i64 0, .int .i64 0, .int .i64 0, .int .i64 0, .int .u64 0] 35 (0, 0))) rfl (by decide) 2 rfl rfl)
                have hsz : (Z2.alloc (.cells #[.int .i64 456, .int .i64 123, .int .u64 0, .int .u64 0, .int .i64 0, .int .u64 0, .int .i64 0, .int .i64 0, .int .i64 0, .int .i64 0, .int .i64 0, .int .i64 0, .int .i64 0, .int .i64 0, .int .u64 0, .int .i64 123, .int .i64 456, .int .u64 0, .int .u64 0, .int .i64 0, .int .u64 0, .int .i64 0, .int .i64 0, .int .i64 0, .int .i64 0, .int .i64 0, .int .i64 0, .int .i64 0, .int .i64 0, .int .u64 0] 35 (0, 0))).heap.size = Z2.heap.size + 1 := by simp
                rw [hsz] at HLP
                refine wpAnyH_ready (rs := [17]) (by kernel_rfl) (by simp) ?_
                refine AllReadyH.cons (o := { dst := some 58, op := Op.call { callee := Callee.value (Operand.func 13), args := #[Operand.tmp 56, Operand.tmp 57], argTypes := #[36, 23] }, type := 22, pos := "law.go:20", after := #[{ on := 15, ground := Ground.data }, { on := 16, ground := Ground.data }, { on := 14, ground := Ground.chain }, { on := 14, ground := Ground.guard }], guard := some (14, true) }) rfl (fun K hK => ?_) ?_
                · go_simp
                  go_at_call 13
                  refine (Kn.tickM ((HK.out.alloc (.cells #[.int .i64 456, .int .i64 123, .int .u64 0, .int .u64 0, .int .i64 0, .int .u64 0, .int .i64 0, .int .i64 0, .int .i64 0, .int .i64 0, .int .i64 0, .int .i64 0, .int .i64 0, .int .i64 0, .int .u64 0, .int .i64 123, .int .i64 456, .int .u64 0, .int .u64 0, .int .i64 0, .int .u64 0, .int .i64 0, .int .i64 0, .int .i64 0, .int .i64 0, .int .i64 0, .int .i64 0, .int .i64 0, .int .i64 0, .int .u64 0] 35 (0, 0))).alloc (.cells #[.int .i64 4, .int .i64 3] 3 (0, 0))) [4, 3] HLP.out Nt.k_three.1 Nt.k_three.2 (by decide) (by decide)).mono ?_
                  rintro e W3 ⟨p1, n1, c1, rfl, ht, hk, htu⟩
                  refine hK.out _ _ hk.cells (fun hHeld => ?_)
                  clear hK K
                  try simp only [Act.put, List.setIfInBounds_toArray, List.set_cons_zero, List.set_cons_succ]
                  have hb := (HLB.out.alloc (.cells #[.int .i64 4, .int .i64 3] 3 (0, 0))).kept htu (by have h1 := HK.out.lo; have h2 := HK.out.gh; have h3 := HK.out.hW; simp; omega)
                  generalize W3 = Y at hk ht hb ⊢
                  generalize (Value.slice (some ⟨Z2.heap.size + 1, 0, none⟩) 2 2) = vP
                  generalize (Value.slice p1 n1 c1) = vT at ht ⊢
                  generalize (Value.slice (some ⟨Z2.heap.size, 0, none⟩) 2 2) = vB at hb ⊢
                  revert hb ht hk
                  revert vB vT vP Y
                  exact hJ
                exact AllReadyH.nil
              exact AllReadyH.nil
            exact AllReadyH.nil
          case k3 =>
            intro Y vP vT vB hk ht hb
            have hHeld : Kn.S w Y := hk.cells
            refine wpAnyH_ready (rs := [21]) (by kernel_rfl) (by simp) ?_
            refine AllReadyH.cons (o := { dst := some 62, op := Op.call { callee := Callee.value (Operand.func 26), args := #[Operand.tmp 58, Operand.tmp 61], argTypes := #[22, 22] }, type := 4, pos := "law.go:20", after := #[{ on := 17, ground := Ground.data }, { on := 20, ground := Ground.data }, { on := 17, ground := Ground.chain }, { on := 14, ground := Ground.guard }], guard := some (14, true) }) rfl (fun K hK => ?_) ?_
            · go_simp
              go_at_call 26
              refine (rSame_of true (by simp) ht hb).mono ?_
              rintro e Z3 ⟨rfl, hbw⟩
              have HK := Lib.hid (hk.turn0 hbw)
              refine hK.out _ _ HK.out.cells (fun hHeld => ?_)
              clear hK K
              try simp only [Act.put, List.setIfInBounds_toArray, List.set_cons_zero, List.set_cons_succ]
              clear ht hb hk hbw
              refine wpAnyH_take (i := 22) (oi := { dst := some 63, op := Op.pick (Operand.tmp 55) (Operand.tmp 62) (Operand.const (Value.bool false)), type := 4, pos := "law.go:20", after := #[{ on := 14, ground := Ground.data }, { on := 21, ground := Ground.data }], guard := none }) (v := ?_) rfl (by kernel_rfl) (by kernel_rfl) (by kernel_rfl) (fun _ _ _ h => h) (Or.inl ⟨by rfl, ?_⟩) (by assumption) ?_
              rotate_left
              · intro w hSw; (try dsimp only [Kn.S] at hSw); go_simp; try with_reducible rfl
              try simp only [Act.put, List.setIfInBounds_toArray, List.set_cons_zero, List.set_cons_succ]
              refine wpAnyH_take (i := 23) (oi := { dst := some 64, op := Op.move (Operand.tmp 63), type := 4, pos := "law.go:20", after := #[{ on := 22, ground := Ground.data }, { on := 21, ground := Ground.chain }], guard := none }) (v := ?_) rfl (by kernel_rfl) (by kernel_rfl) (by kernel_rfl) (fun _ _ _ h => h) (Or.inl ⟨by rfl, ?_⟩) (by assumption) ?_
              rotate_left
              · intro w hSw; (try dsimp only [Kn.S] at hSw); go_simp; try with_reducible rfl
              try simp only [Act.put, List.setIfInBounds_toArray, List.set_cons_zero, List.set_cons_succ]
              refine wpAnyH_take (i := 24) (oi := { dst := some 65, op := Op.move (Operand.tmp 5), type := 36, pos := "law.go:20", after := #[{ on := 23, ground := Ground.guard }], guard := some (23, true) }) (v := ?_) rfl (by kernel_rfl) (by kernel_rfl) (by kernel_rfl) (fun _ _ _ h => h) (Or.inl ⟨by rfl, ?_⟩) (by assumption) ?_
              rotate_left
              · intro w hSw; (try dsimp only [Kn.S] at hSw); go_simp; try with_reducible rfl
              try simp only [Act.put, List.setIfInBounds_toArray, List.set_cons_zero, List.set_cons_succ]
              refine wpAnyH_ready (rs := [25]) (by kernel_rfl) (by simp) ?_
              refine AllReadyH.cons (o := { dst := some 66, op := Op.call { callee := Callee.value (Operand.func 13), args := #[Operand.tmp 65, Operand.const (Value.slice none 0 0)], argTypes := #[36, 23] }, type := 22, pos := "law.go:20", after := #[{ on := 24, ground := Ground.data }, { on := 23, ground := Ground.chain }, { on := 23, ground := Ground.guard }], guard := some (23, true) }) rfl (fun K hK => ?_) ?_
              · go_simp
                go_at_call 13
                refine (Kn.tickM HK.out [] (LS.nil _) (tl := []) (st := []) rfl rfl (by decide) (by decide)).mono ?_
                rintro e W4 ⟨p1, n1, c1, rfl, ht, hk, htu⟩
                have hn := ht.length.1
                simp only [List.length_nil] at hn
                subst hn
                refine hK.out _ _ hk.cells (fun hHeld => ?_)
                clear hK K
                try simp only [Act.put, List.setIfInBounds_toArray, List.set_cons_zero, List.set_cons_succ]
                refine wpAnyH_take (i := 26) (oi := { dst := some 67, op := Op.call { callee := Callee.builtin Builtin.len, args := #[Operand.tmp 66], argTypes := #[22] }, type := 3, pos := "law.go:20", after := #[{ on := 25, ground := Ground.data }, { on := 23, ground := Ground.guard }], guard := some (23, true) }) (v := ?_) rfl (by kernel_rfl) (by kernel_rfl) (by kernel_rfl) (fun _ _ _ h => h) (Or.inl ⟨by rfl, ?_⟩) (by assumption) ?_
                rotate_left
                · intro w hSw; (try dsimp only [Kn.S] at hSw); go_simp; try with_reducible rfl
                try simp only [Act.put, List.setIfInBounds_toArray, List.set_cons_zero, List.set_cons_succ]
                refine wpAnyH_take (i := 27) (oi := { dst := some 68, op := Op.binOp BinOp.eql 3 (Operand.tmp 67) (Operand.const (Value.int IntKind.i64 0)) 3, type := 4, pos := "law.go:20", after := #[{ on := 26, ground := Ground.data }, { on := 23, ground := Ground.guard }], guard := some (23, true) }) (v := ?_) rfl (by kernel_rfl) (by kernel_rfl) (by kernel_rfl) (fun _ _ _ h => h) (Or.inl ⟨by rfl, ?_⟩) (by assumption) ?_
                rotate_left
                · intro w hSw; (try dsimp only [Kn.S] at hSw); go_simp; try with_reducible rfl
                try simp only [Act.put, List.setIfInBounds_toArray, List.set_cons_zero, List.set_cons_succ]
                refine wpAnyH_take (i := 28) (oi := { dst := some 69, op := Op.pick (Operand.tmp 64) (Operand.tmp 68) (Operand.const (Value.bool false)), type := 4, pos := "law.go:20", after := #[{ on := 23, ground := Ground.data }, { on := 27, ground := Ground.data }], guard := none }) (v := ?_) rfl (by kernel_rfl) (by kernel_rfl) (by kernel_rfl) (fun _ _ _ h => h) (Or.inl ⟨by rfl, ?_⟩) (by assumption) ?_
                rotate_left
                · intro w hSw; (try dsimp only [Kn.S] at hSw); go_simp; try with_reducible rfl
                try simp only [Act.put, List.setIfInBounds_toArray, List.set_cons_zero, List.set_cons_succ]
                refine wpAnyH_take (i := 29) (oi := { dst := some 0, op := Op.assign (Operand.tmp 69), type := 4, pos := "law.go:20", after := #[{ on := 28, ground := Ground.data }, { on := 25, ground := Ground.chain }, { on := 0, ground := Ground.phase }, { on := 1, ground := Ground.phase }, { on := 2, ground := Ground.phase }, { on := 3, ground := Ground.phase }, { on := 4, ground := Ground.phase }, { on := 5, ground := Ground.phase }, { on := 6, ground := Ground.phase }, { on := 7, ground := Ground.phase }, { on := 8, ground := Ground.phase }, { on := 9, ground := Ground.phase }, { on := 10, ground := Ground.phase }, { on := 11, ground := Ground.phase }, { on := 12, ground := Ground.phase }, { on := 13, ground := Ground.phase }, { on := 14, ground := Ground.phase }, { on := 15, ground := Ground.phase }, { on := 16, ground := Ground.phase }, { on := 17, ground := Ground.phase }, { on := 18, ground := Ground.phase }, { on := 19, ground := Ground.phase }, { on := 20, ground := Ground.phase }, { on := 21, ground := Ground.phase }, { on := 22, ground := Ground.phase }, { on := 23, ground := Ground.phase }, { on := 24, ground := Ground.phase }, { on := 25, ground := Ground.phase }, { on := 26, ground := Ground.phase }, { on := 27, ground := Ground.phase }, { on := 28, ground := Ground.phase }], guard := none }) (v := ?_) rfl (by kernel_rfl) (by kernel_rfl) (by kernel_rfl) (fun _ _ _ h => h) (Or.inl ⟨by rfl, ?_⟩) (by assumption) ?_
                rotate_left
                · intro w hSw; (try dsimp only [Kn.S] at hSw); go_simp; try with_reducible rfl
                try simp only [Act.put, List.setIfInBounds_toArray, List.set_cons_zero, List.set_cons_succ]
                refine wpAnyH_done (by kernel_rfl) ?_ _
                have HB := Lib.hid hk.b
                clear ht hk htu hHeld
                go_wp2
                go_ret
                exact ⟨rfl, HB.out⟩
              exact AllReadyH.nil
            exact AllReadyH.nil
        exact AllReadyH.nil
    exact AllReadyH.nil
end Go.Proofs.Ytihilifpadpkbaa
