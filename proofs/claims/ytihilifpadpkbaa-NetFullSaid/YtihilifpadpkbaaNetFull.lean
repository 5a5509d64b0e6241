/- NetFull returns true for every letter, every count of them and every count of more, and leaves the memory that was there as it was. -/
import Derived.Test.YtihilifpadpkbaaNtK
import Derived.Test.YtihilifpadpkbaaNtL
import Derived.Test.YtihilifpadpkbaaLift
set_option linter.unusedVariables false
set_option linter.unusedSimpArgs false
namespace Go.Proofs.Ytihilifpadpkbaa.netFull
open Go.ChangeShapes Go.WideShapes Go.ChangeAt Go.RowKit

theorem turn_setCells {S : Nat → Prop} {a : World} {g : Nat} (hg : S g) : ∀ (vs : List Value) (o : Nat) (w : World), Turn S a w → Turn S a (w.setCells g o vs)
  | [], _, _, h => h
  | v :: r, o, w, h => by
    rw [World.setCells]
    exact turn_setCells hg r (o + 1) _ (h.setCell hg o v)
theorem mk_lts : ∃ Z : Array Value, ∀ (m : Nat), m ≤ 100000 → ∀ W : World, (Instr.makeSlice 22 (.int .i64 (m : Int)) (.int .i64 (m : Int))).run Try.prog W = .ok (.slice (some ⟨W.heap.size, 0, none⟩) m m) (W.alloc (.cells (madeCells Z (m * 15)) 35 (0, 0))) := by
  have h1 : ((Try.prog.info? 35).map fun i => (i.size, i.bytes)) = some (15, 120) := by kernel_rfl
  have h2 : ((Try.prog.info? 35).bind fun i => i.zero).isSome = true := by kernel_rfl
  cases hi : Try.prog.info? 35 with
  | none => rw [hi] at h1; cases h1
  | some i =>
    rw [hi] at h1 h2
    obtain ⟨z, hz⟩ := Option.isSome_iff_exists.1 h2
    have h1' : i.size = 15 ∧ i.bytes = 120 := by simpa using h1
    refine ⟨z.cells, fun m hm W => ?_⟩
    have := run_makeSlice (w := W) (P := Try.prog) 22 35 i z Try.underlying22 hi hz .i64 .i64 (m : Int) (m : Int) (by omega) (Int.le_refl _) (by rw [h1'.1]; simp; omega) (by rw [h1'.2]; omega) (by omega)
    rw [h1'.1] at this
    simpa using this
attribute [local go_sem ↓] Lt_execLoad Lt_execStore
attribute [local go_sem] Lt_load Lt_store loL_drew okL_drew

set_option maxRecDepth 10000 in
set_option maxHeartbeats 8000000 in
theorem walk (x : Lt) (hx : x.fit) (many more : Int) (w : World) : Calls Try.prog 4 #[.agg #[.int .i64 x.f, .int .i64 x.t, .int .u64 x.n, .int .u64 x.a, .int .i64 x.k, .int .u64 x.tk, .int .i64 x.c, .int .i64 x.d, .int .i64 x.co, .int .i64 x.fl, .int .i64 x.dy, .int .i64 x.va, .int .i64 x.st, .int .i64 x.ho, .int .u64 x.nx], .int .i64 many, .int .i64 more] w fun e w' => e = .returned (.bool true) ∧ Below w.heap.size w w' := by
  have HB0 := Lib.hid ((Below.refl w.heap.size w).alloc (Nat.le_refl _) (.cells #[.int .i64 x.f, .int .i64 x.t, .int .u64 x.n, .int .u64 x.a, .int .i64 x.k, .int .u64 x.tk, .int .i64 x.c, .int .i64 x.d, .int .i64 x.co, .int .i64 x.fl, .int .i64 x.dy, .int .i64 x.va, .int .i64 x.st, .int .i64 x.ho, .int .u64 x.nx] 35 (0, 0)))
  have HR0 := Lib.hid (new_rowW w (.cells #[.int .i64 x.f, .int .i64 x.t, .int .u64 x.n, .int .u64 x.a, .int .i64 x.k, .int .u64 x.tk, .int .i64 x.c, .int .i64 x.d, .int .i64 x.co, .int .i64 x.fl, .int .i64 x.dy, .int .i64 x.va, .int .i64 x.st, .int .i64 x.ho, .int .u64 x.nx] 35 (0, 0)) _ rfl)
  have HMY := Lib.hid (fun W => rLmayL_any x hx W)
  have HX := Lib.hid hx
  obtain ⟨f1, f2⟩ := row_lo 15 HR0.out rfl rfl
  obtain ⟨q, hq⟩ : ∃ q, x.may = q := ⟨_, rfl⟩
  rw [hq] at HMY
  have HQ := Lib.hid hq
  clear hq hx
  cases q
  · go_enter Try.func4, Try.ntmps4
    go_wp2_with (first | (go_at_call 15; refine (HMY.out _).mono ?_; rintro e w1 ⟨rfl, hb1⟩; have HB1 := Lib.hid (HB0.out.trans (hb1.mono HB0.out.size)); have HR1 := Lib.hid ((hb1.block _ (block_lt HR0.out)).trans HR0.out); clear hb1 f1 f2) | (go_at_call 9; refine (known23_any _).mono ?_; rintro e w9 ⟨rfl, hb9⟩; have HB9 := Lib.hid (HB1.out.trans (hb9.mono HB1.out.size)); clear hb9))
    go_ret
    exact ⟨rfl, HB9.out⟩
  by_cases h1 : many < 0
  · go_enter Try.func4, Try.ntmps4
    go_wp2_with (first | (go_at_call 15; refine (HMY.out _).mono ?_; rintro e w1 ⟨rfl, hb1⟩; have HB1 := Lib.hid (HB0.out.trans (hb1.mono HB0.out.size)); have HR1 := Lib.hid ((hb1.block _ (block_lt HR0.out)).trans HR0.out); clear hb1 f1 f2) | (go_at_call 9; refine (known23_any _).mono ?_; rintro e w9 ⟨rfl, hb9⟩; have HB9 := Lib.hid (HB1.out.trans (hb9.mono HB1.out.size)); clear hb9))
    go_ret
    exact ⟨rfl, HB9.out⟩
  by_cases h2 : 10010 < many
  · go_enter Try.func4, Try.ntmps4
    go_wp2_with (first | (go_at_call 15; refine (HMY.out _).mono ?_; rintro e w1 ⟨rfl, hb1⟩; have HB1 := Lib.hid (HB0.out.trans (hb1.mono HB0.out.size)); have HR1 := Lib.hid ((hb1.block _ (block_lt HR0.out)).trans HR0.out); clear hb1 f1 f2) | (go_at_call 9; refine (known23_any _).mono ?_; rintro e w9 ⟨rfl, hb9⟩; have HB9 := Lib.hid (HB1.out.trans (hb9.mono HB1.out.size)); clear hb9))
    go_ret
    exact ⟨rfl, HB9.out⟩
  by_cases h3 : more < 0
  · go_enter Try.func4, Try.ntmps4
    go_wp2_with (first | (go_at_call 15; refine (HMY.out _).mono ?_; rintro e w1 ⟨rfl, hb1⟩; have HB1 := Lib.hid (HB0.out.trans (hb1.mono HB0.out.size)); have HR1 := Lib.hid ((hb1.block _ (block_lt HR0.out)).trans HR0.out); clear hb1 f1 f2) | (go_at_call 9; refine (known23_any _).mono ?_; rintro e w9 ⟨rfl, hb9⟩; have HB9 := Lib.hid (HB1.out.trans (hb9.mono HB1.out.size)); clear hb9))
    go_ret
    exact ⟨rfl, HB9.out⟩
  by_cases h4 : 10 < more
  · go_enter Try.func4, Try.ntmps4
    go_wp2_with (first | (go_at_call 15; refine (HMY.out _).mono ?_; rintro e w1 ⟨rfl, hb1⟩; have HB1 := Lib.hid (HB0.out.trans (hb1.mono HB0.out.size)); have HR1 := Lib.hid ((hb1.block _ (block_lt HR0.out)).trans HR0.out); clear hb1 f1 f2) | (go_at_call 9; refine (known23_any _).mono ?_; rintro e w9 ⟨rfl, hb9⟩; have HB9 := Lib.hid (HB1.out.trans (hb9.mono HB1.out.size)); clear hb9))
    go_ret
    exact ⟨rfl, HB9.out⟩
  obtain ⟨m, rfl⟩ := Int.eq_ofNat_of_zero_le (show 0 ≤ many by omega)
  obtain ⟨d, rfl⟩ := Int.eq_ofNat_of_zero_le (show 0 ≤ more by omega)
  have hm : m ≤ 10010 := by omega
  have hd : d ≤ 10 := by omega
  have hmi : (m : Int) ≤ 10010 := by omega
  have hdi : (d : Int) ≤ 10 := by omega
  clear h1 h2 h3 h4
  obtain ⟨Z, hZ⟩ := mk_lts
  have hmk := hZ m (by omega)
  have HSZ := Lib.hid (size_madeCells Z (m * 15))
  generalize madeCells Z (m * 15) = MC at *
  have HMC := Lib.hid (fun W => new_rowW W (.cells MC 35 (0, 0)) _ rfl)
  clear hZ
  go_enter Try.func4, Try.ntmps4
  go_wp2_with (first | (go_at_call 15; refine (HMY.out _).mono ?_; rintro e w1 ⟨rfl, hb1⟩; have HB1 := Lib.hid (HB0.out.trans (hb1.mono HB0.out.size)); have HR1 := Lib.hid ((hb1.block _ (block_lt HR0.out)).trans HR0.out); clear hb1 f1 f2) | (go_at_call 10; refine (nnew_any 5 (by omega) (by omega) _).mono ?_; rintro e w2 ⟨rfl, hn, hb⟩; have HN2 := Lib.hid hn; have HB2 := Lib.hid (HB1.out.trans (hb.mono HB1.out.size)); have HR2 := Lib.hid ((hb.block _ (block_lt HR1.out)).trans HR1.out); clear hn hb))
  generalize hw3 : w2.alloc (.cells MC 35 (0, 0)) = w3 at *
  have HA3 := Lib.hid (show Below w2.heap.size w2 w3 from hw3 ▸ (Below.refl _ _).alloc (Nat.le_refl _) _)
  have HM3 := Lib.hid (show w3.heap[w2.heap.size]? = some (.cells MC 35 (0, 0)) from hw3 ▸ HMC.out w2)
  have HN3 := Lib.hid (HN2.out.below HA3.out)
  have HB3 := Lib.hid (HB2.out.trans (HA3.out.mono HB2.out.size))
  have HR3 := Lib.hid ((HA3.out.block _ (block_lt HR2.out)).trans HR2.out)
  have HLT := Lib.hid (show w.heap.size < w1.heap.size ∧ w1.heap.size < w2.heap.size ∧ w2.heap.size < w3.heap.size from ⟨block_lt HR1.out, block_lt HN2.out.2.1, block_lt HM3.out⟩)
  clear hw3 hmk HMC
  go_loopw [10] (fun i wr => ∃ k : Nat, k ≤ m ∧ i = .int .i64 k ∧ Turn (· = w2.heap.size) w3 wr ∧ (∀ i, i < k → wr.rangeAt w2.heap.size (i * 15) x.cells) ∧ ∀ i, i < m → wr.there w2.heap.size (i * 15) 15) (fun i _ => m - (intOf i).toNat)
  case atStart => exact ⟨0, Nat.zero_le _, rfl, Turn.refl _ _, fun i hi => absurd hi (Nat.not_lt_zero _), fun i hi j hj => by
      rw [cell_of_row _ _ _ _ _ _ HM3.out]
      have h1 := HSZ.out
      have h2 : i * 15 + j < MC.size := by omega
      exact ⟨by rw [Array.getElem?_eq_getElem h2]; rfl, frozen_of_row _ _ _ _ _ HM3.out⟩⟩
  case round =>
    obtain ⟨k, hk, rfl, htu, hra, hth⟩ := hrel
    have HTU := Lib.hid htu
    have HRA := Lib.hid hra
    have HTH := Lib.hid hth
    clear htu hra hth
    by_cases hlt : k < m
    · obtain ⟨f1, f2⟩ := row_lo 15 ((HTU.out.block _ (block_lt HR3.out) (by have := HLT.out; omega)).trans HR3.out) rfl rfl
      have hth := HTH.out k hlt
      have h1c : ([.int .i64 x.f, .int .i64 x.t, .int .u64 x.n, .int .u64 x.a, .int .i64 x.k, .int .u64 x.tk, .int .i64 x.c, .int .i64 x.d, .int .i64 x.co, .int .i64 x.fl, .int .i64 x.dy, .int .i64 x.va, .int .i64 x.st, .int .i64 x.ho, .int .u64 x.nx] : List Value).all (·.oneCell') = true := rfl
      have h1n : ([.int .i64 x.f, .int .i64 x.t, .int .u64 x.n, .int .u64 x.a, .int .i64 x.k, .int .u64 x.tk, .int .i64 x.c, .int .i64 x.d, .int .i64 x.co, .int .i64 x.fl, .int .i64 x.dy, .int .i64 x.va, .int .i64 x.st, .int .i64 x.ho, .int .u64 x.nx] : List Value).length = 15 := rfl
      go_wp2_with fail
      go_roundw
      case rel =>
        refine ⟨k + 1, by omega, by go_num, turn_setCells (S := (· = w2.heap.size)) rfl _ _ _ HTU.out, fun i hi => ?_, fun i hi => World.there_setCells (HTH.out i hi) _ _ _⟩
        by_cases hik : i = k
        · subst hik
          exact World.rangeAt_setCells_same _ _ _ x.cells hth
        · exact World.rangeAt_setCells_apart (HRA.out i (by omega)) _ _ _ (.inr (by have := idx_apart (n := 15) hik; rw [Lt.cells_length]; simp; omega))
      case measure => simp [intOf]; omega
    · obtain rfl : k = m := by omega
      have HLA : Hid (LS Lt.cells 15 wr (.slice (some ⟨w2.heap.size, 0, none⟩) k k) (List.replicate k x)) := Lib.hid ⟨some ⟨w2.heap.size, 0, none⟩, k, by simp, by simp, by unfold maxLen; omega, fun _ => ⟨_, 0, rfl, by have h1 := HLT.out; have h2 := HTU.out.size; omega, fun i y hy => by
        have hi : i < k := by have := (List.getElem?_eq_some_iff.1 hy).1; simpa using this
        obtain rfl : x = y := by rw [List.getElem?_replicate, if_pos hi] at hy; exact Option.some.inj hy
        rw [Nat.zero_add]; exact HRA.out i hi⟩⟩
      have HN4 := Lib.hid (HN3.out.turn HTU.out (by have := HLT.out; omega) (fun b hb => by cases hb))
      have HB4 := Lib.hid (Turn.below HB3.out HB3.out.size HTU.out (fun i hi => by have := HLT.out; omega))
      have HR4 := Lib.hid ((HTU.out.block _ (block_lt HR3.out) (by have := HLT.out; omega)).trans HR3.out)
      have HOK : Hid (∀ y ∈ List.replicate k x, y.may = true) := Lib.hid (fun y hy => by rw [List.eq_of_mem_replicate hy]; exact HQ.out)
      have HFT : Hid (∀ y ∈ List.replicate k x, y.fit) := Lib.hid (fun y hy => by rw [List.eq_of_mem_replicate hy]; exact HX.out)
      have HLN : Hid ((List.replicate k x).length = k) := Lib.hid (by simp)
      have HSW := Lib.hid HTU.out.size
      by_cases hbig : 10000 < k
      · go_wp2_with fail
        refine (nsend_full _ HFT.out _ _ _ _ _ _ _ _ _ _ HN4.out (by omega) HLA.out HOK.out (by simp) (by rw [HLN.out]; simp; omega)).mono ?_
        rintro e w5 ⟨rfl, hb⟩
        have HN5 := Lib.hid (HN4.out.below hb)
        have HBX := Lib.hid (HB4.out.trans (hb.mono HB4.out.size))
        clear hb
        go_wp2_with (first | (go_at_call 14; refine (nlen_any _ _ _ _ _ _ _ HN5.out (by omega)).mono ?_; rintro e w6 ⟨rfl, rfl⟩) | (go_at_call 9; refine (known23_any _).mono ?_; rintro e w9 ⟨rfl, hb9⟩; have HB9 := Lib.hid (HBX.out.trans (hb9.mono HBX.out.size)); clear hb9))
        go_ret
        exact ⟨rfl, HB9.out⟩
      · go_wp2_with fail
        refine (nsend_ok _ HFT.out _ _ _ _ w1.heap.size _ _ _ _ _ HN4.out (by omega) HLA.out HOK.out (by rw [HLN.out]; simp; omega) (by have h1 := HLT.out; have h2 := HSW.out; omega) (fun b hb hf => by
          injection hb with hb
          have hb : w2.heap.size = b := hb
          rcases hf with h | h
          · have := HLT.out; omega
          · cases h)).mono ?_
        rintro e w5 ⟨rfl, v5, hn, ht, hv⟩
        have HTS : Hid (Turn (fun i => i = w1.heap.size) wr w5) := Lib.hid (ht.mono (fun i _ h => by rcases h with h | h; exact h; cases h))
        have HV5 : Hid (∀ b, v5.ownBlock = some b → wr.heap.size ≤ b) := Lib.hid (fun b hb => by
          rcases hv with h | ⟨c, h, hc⟩
          · rw [h] at hb; cases hb
          · rw [h] at hb; injection hb with hb; omega)
        obtain ⟨a5, ha5⟩ : ∃ z, [] ++ (List.replicate k x).map h0 = z := ⟨_, rfl⟩
        have HL5 : Hid (a5.length = k) := Lib.hid (by rw [← ha5]; simp)
        rw [ha5] at hn
        have HN5 := Lib.hid hn
        have HR5 := Lib.hid ((HTS.out.block _ (block_lt HR4.out) (by have := HLT.out; omega)).trans HR4.out)
        have HB5 := Lib.hid (Turn.below HB4.out HB4.out.size HTS.out (fun i hi => by have := HLT.out; omega))
        have HS5 := Lib.hid HTS.out.size
        clear hn ht hv ha5
        go_wp2_with fail
        refine (nsend_ok [] (fun y hy => by cases hy) (some ⟨w2.heap.size, 0, none⟩) 0 k w5 w1.heap.size _ _ _ v5 a5 HN5.out (by omega) ⟨some ⟨w2.heap.size, 0, none⟩, k, rfl, Nat.zero_le _, by unfold maxLen; omega, fun h => absurd rfl h⟩ (fun y hy => by cases hy) (by rw [HL5.out]; simp; omega) (by have h1 := HLT.out; have h2 := HSW.out; have h3 := HS5.out; omega) (fun b hb hf => by
          injection hb with hb
          have hb : w2.heap.size = b := hb
          rcases hf with h | h
          · have := HLT.out; omega
          · have h1 := HV5.out b h; have h2 := HLT.out; have h3 := HSW.out; omega)).mono ?_
        rintro e w6 ⟨rfl, v6, hn, ht, hv⟩
        rw [List.map_nil, List.append_nil] at hn
        have HN6 := Lib.hid hn
        have HFO : Hid (∀ i, Ft w1.heap.size v5 i → w1.heap.size ≤ i ∧ i ≠ w.heap.size) := Lib.hid (fun i hi => by
          have h1 := HLT.out; have h2 := HSW.out
          rcases hi with h | h
          · omega
          · have h3 := HV5.out i h; omega)
        have HR6 := Lib.hid ((ht.block _ (block_lt HR5.out) (fun h => (HFO.out _ h).2 rfl)).trans HR5.out)
        have HB6 := Lib.hid (Turn.below HB5.out HB5.out.size ht (fun i hi => by have h1 := HFO.out i hi; have h2 := HLT.out; omega))
        have HV6 : Hid (∀ b, v6.ownBlock = some b → wr.heap.size ≤ b ∧ b < w6.heap.size) := Lib.hid (fun b hb => ⟨by
          rcases hv with h | ⟨c, h, hc⟩
          · exact HV5.out b (h ▸ hb)
          · rw [h] at hb; injection hb with hb; have := HS5.out; omega, (recs_base hn.2.2.1 hb).2⟩)
        have HG6 := Lib.hid (block_lt hn.2.1)
        clear hn ht hv
        go_wp2_with fail
        go_loopw [13, 14] (fun u i wq => ∃ j : Nat, j ≤ d ∧ i = .int .i64 j ∧ wq.ownsRow w6.heap.size 35 15 u (List.replicate j x).length (encL Lt.cells (List.replicate j x)) ∧ Below w6.heap.size w6 wq) (fun _ i _ => d - (intOf i).toNat)
        case atStart => exact ⟨0, Nat.zero_le _, rfl, World.ownsRow_nil _ _ _ _, Below.refl _ _⟩
        case round =>
          obtain ⟨j, hj, rfl, hown, hbq⟩ := hrel
          have HO := Lib.hid hown
          have HBQ := Lib.hid hbq
          clear hown hbq
          by_cases hjd : j < d
          · obtain ⟨f1, f2⟩ := row_lo 15 ((HBQ.out.block _ (block_lt HR6.out)).trans HR6.out) rfl rfl
            have HNX := Lib.hid (new_rowW wr (.cells #[.int .i64 x.f, .int .i64 x.t, .int .u64 x.n, .int .u64 x.a, .int .i64 x.k, .int .u64 x.tk, .int .i64 x.c, .int .i64 x.d, .int .i64 x.co, .int .i64 x.fl, .int .i64 x.dy, .int .i64 x.va, .int .i64 x.st, .int .i64 x.ho, .int .u64 x.nx] 35 (0, 0)) _ rfl)
            obtain ⟨lj, hlj⟩ : ∃ z, List.replicate j x = z := ⟨_, rfl⟩
            have HLJ : Hid (List.replicate (j + 1) x = lj ++ [x] ∧ lj.length = j) := Lib.hid ⟨by rw [List.replicate_succ', hlj], by rw [← hlj]; simp⟩
            rw [hlj] at HO
            clear hlj HNX
            go_wp2_with (at_builtin; refine wpList_append_recs elemLt rfl _ _ rfl w6.heap.size _ lj.length lj rfl (recs_below HO.out ((Below.refl _ _).alloc (Nat.le_refl _) (.cells #[.int .i64 x.f, .int .i64 x.t, .int .u64 x.n, .int .u64 x.a, .int .i64 x.k, .int .u64 x.tk, .int .i64 x.c, .int .i64 x.d, .int .i64 x.co, .int .i64 x.fl, .int .i64 x.dy, .int .i64 x.va, .int .i64 x.st, .int .i64 x.ho, .int .u64 x.nx] 35 (0, 0)))) _ [x] rfl (row_one (x := x) (new_rowW _ (.cells #[.int .i64 x.f, .int .i64 x.t, .int .u64 x.n, .int .u64 x.a, .int .i64 x.k, .int .u64 x.tk, .int .i64 x.c, .int .i64 x.d, .int .i64 x.co, .int .i64 x.fl, .int .i64 x.dy, .int .i64 x.va, .int .i64 x.st, .int .i64 x.ho, .int .u64 x.nx] 35 (0, 0)) _ rfl) rfl Lt.cells_length (by decide)) (by have := HLJ.out.2; show lj.length + 1 ≤ _; omega) (by have := HBQ.out.size; simp; omega) ?_; intro vn wn hown hg hnn hat; have HO2 := Lib.hid hown; have HBN := Lib.hid ((HBQ.out.alloc HBQ.out.size (.cells #[.int .i64 x.f, .int .i64 x.t, .int .u64 x.n, .int .u64 x.a, .int .i64 x.k, .int .u64 x.tk, .int .i64 x.c, .int .i64 x.d, .int .i64 x.co, .int .i64 x.fl, .int .i64 x.dy, .int .i64 x.va, .int .i64 x.st, .int .i64 x.ho, .int .u64 x.nx] 35 (0, 0))).grown hg (HBQ.out.alloc HBQ.out.size (.cells #[.int .i64 x.f, .int .i64 x.t, .int .u64 x.n, .int .u64 x.a, .int .i64 x.k, .int .u64 x.tk, .int .i64 x.c, .int .i64 x.d, .int .i64 x.co, .int .i64 x.fl, .int .i64 x.dy, .int .i64 x.va, .int .i64 x.st, .int .i64 x.ho, .int .u64 x.nx] 35 (0, 0))).size (fun b hb => (recs_base HO.out hb).1)); clear hown hg hnn hat)
            go_roundw
            case rel => exact ⟨j + 1, by omega, by go_num, by rw [HLJ.out.1, List.length_append]; exact HO2.out, HBN.out⟩
            case measure => simp [intOf]; omega
          · obtain rfl : j = d := by omega
            obtain ⟨lj, hlj⟩ : ∃ z, List.replicate j x = z := ⟨_, rfl⟩
            have HLJ : Hid (lj.length = j ∧ (∀ y ∈ lj, y.may = true) ∧ ∀ y ∈ lj, y.fit) := Lib.hid ⟨by rw [← hlj]; simp, fun y hy => by rw [← hlj] at hy; rw [List.eq_of_mem_replicate hy]; exact HQ.out, fun y hy => by rw [← hlj] at hy; rw [List.eq_of_mem_replicate hy]; exact HX.out⟩
            rw [hlj] at HO
            obtain ⟨qu, cu, rfl⟩ := rec_form HO.out
            have HN7 := Lib.hid (HN6.out.below HBQ.out)
            have HB7 := Lib.hid (HB6.out.trans (HBQ.out.mono HB6.out.size))
            have HU := Lib.hid (LS.of_own HO.out Lt.cells_length (by decide))
            have HUB : Hid (∀ b, (Value.slice qu lj.length cu).ownBlock = some b → ¬ Ft w1.heap.size v6 b) := Lib.hid (fun b hb hf => by
              have h1 := (recs_base HO.out hb).1
              rcases hf with h | h
              · have := HG6.out; omega
              · have := (HV6.out b h).2; omega)
            rw [HLJ.out.1] at HU HUB ⊢
            clear hlj
            by_cases hover : 10000 < k + j
            · go_wp2_with fail
              refine (nsend_full _ HLJ.out.2.2 _ _ _ _ _ _ _ _ _ _ HN7.out (by omega) HU.out HLJ.out.2.1 (by rw [HL5.out]; omega) (by rw [HL5.out, HLJ.out.1]; omega)).mono ?_
              rintro e w8 ⟨rfl, hb⟩
              have HN8 := Lib.hid (nlen_any _ _ _ _ _ _ _ (HN7.out.below hb) (by omega))
              have HBX := Lib.hid (HB7.out.trans (hb.mono HB7.out.size))
              rw [HL5.out] at HN8
              clear hb
              have hov : (10000 : Int) < (k : Int) + (j : Int) := by omega
              go_wp2_with (first | (go_at_call 14; refine HN8.out.mono ?_; rintro e w10 ⟨rfl, rfl⟩) | (go_at_call 9; refine (known23_any _).mono ?_; rintro e w9 ⟨rfl, hb9⟩; have HB9 := Lib.hid (HBX.out.trans (hb9.mono HBX.out.size)); clear hb9))
              go_ret
              exact ⟨rfl, HB9.out⟩
            · go_wp2_with fail
              refine (nsend_ok _ HLJ.out.2.2 _ _ _ _ w1.heap.size _ _ _ _ _ HN7.out (by omega) HU.out HLJ.out.2.1 (by rw [HL5.out, HLJ.out.1]; omega) (by have h1 := HG6.out; have h2 := HBQ.out.size; omega) HUB.out).mono ?_
              rintro e w8 ⟨rfl, v8, hn, ht, hv⟩
              have HN8 := Lib.hid (nlen_any _ _ _ _ _ _ _ hn (by omega))
              have HBX := Lib.hid (Turn.below HB7.out HB7.out.size ht (fun i hi => by
                rcases hi with h | h
                · have := HLT.out; omega
                · have h1 := (HV6.out i h).1; have h2 := HSW.out; have h3 := HLT.out; omega))
              have HLE : Hid ((a5 ++ lj.map h0).length = k + j) := Lib.hid (by rw [List.length_append, List.length_map, HL5.out, HLJ.out.1])
              rw [HLE.out] at HN8
              clear hn ht hv
              have hov : (k : Int) + (j : Int) ≤ 10000 := by omega
              go_wp2_with (first | (go_at_call 14; refine HN8.out.mono ?_; rintro e w10 ⟨rfl, rfl⟩) | (go_at_call 9; refine (known23_any _).mono ?_; rintro e w9 ⟨rfl, hb9⟩; have HB9 := Lib.hid (HBX.out.trans (hb9.mono HBX.out.size)); clear hb9))
              go_ret
              exact ⟨rfl, HB9.out⟩

set_option maxRecDepth 100000 in
theorem lifted (os : Os) (started : os.Started) (H : Type) (enc : TypeId × Value → H) :
    ReturnsInHanded {} Try.checked os 4 .any (Rows.netFullSpec.pre6 enc Try.prog Try.f4 Rows.netFullRow.domain false) (Rows.netFullSpec.post enc Try.prog Try.f4 false true false false) := by
  refine returnsInHanded_of_change (C := Try.checked) own started (by kernel_rfl) Try.func4
    (ChangeSpec.witness6 (enc := enc) (C := Try.checked) false ⟨#[], #[.agg #[.int .i64 0, .int .i64 0, .int .u64 0, .int .u64 0, .int .i64 0, .int .u64 0, .int .i64 0, .int .i64 0, .int .i64 0, .int .i64 0, .int .i64 0, .int .i64 0, .int .i64 0, .int .i64 0, .int .u64 0], .int .i64 0, .int .i64 0], []⟩ 8 (by kernel_rfl) (by kernel_rfl) (by kernel_rfl) (by kernel_rfl)) ?_
  intro W base args ds gs before hval0 hW hcnd _
  have hval : ∀ (j : Nat) t v, Try.f4.params[j]? = some t → args[j]? = some v → Value.okWide Try.prog W .any base t v := hval0
  have hW' := hW
  obtain ⟨p, q, hA0, hV, rfl, hfz, hnd⟩ := hW
  have hA : DataW.TrodAll enc Try.prog W 0 (fun _ => true) true Try.f4.params.toList args.toList ds p := hA0
  rw [Try.params4] at hA hval
  obtain ⟨v0, vs0, d0, ds0, p0, q0, hargs, rfl, rfl, h0, r0⟩ := trodAll_cons hA
  obtain ⟨v1, vs1, d1, ds1, p1, q1, rfl, rfl, rfl, h1, r1⟩ := trodAll_cons r0
  obtain ⟨v2, vs2, d2, ds2, p2, q2, rfl, rfl, rfl, h2, r2⟩ := trodAll_cons r1
  obtain ⟨rfl, rfl, rfl⟩ := trodAll_nil r2
  obtain rfl : args = #[v0, v1, v2] := by cases args; simp_all
  obtain ⟨x, rfl, hfx⟩ := open_letter (hval 0 _ v0 rfl rfl) h0
  obtain ⟨many, rfl, rfl, rfl, wmany⟩ := open_int Try.underlying3 (hval 1 3 v1 rfl rfl) h1
  obtain ⟨more, rfl, rfl, rfl, wmore⟩ := open_int Try.underlying3 (hval 2 3 v2 rfl rfl) h2
  clear hA0 hval0
  refine (walk x hfx many more W).mono fun e W' ⟨he, hg⟩ => ?_
  subst he
  exact ⟨_, rfl, post_law laidOut rfl hW' ⟨rfl, rfl, rfl⟩ (by kernel_rfl) hg Try.underlying4 rfl⟩

theorem proved : Rows.NetFullSaid :=
  OpenClaim.holds_of_wide 4 Try.f4 rfl rfl rfl rfl rfl rfl rfl ⟨rfl, rfl, rfl, rfl, rfl⟩ rfl rfl rfl rfl rfl (by kernel_rfl) Try.func4 (by kernel_rfl)
    (of_decide_eq_true (by kernel_rfl)) (by unfold Func.isWrapper; first | (rw [if_pos (by decide +kernel)]; kernel_rfl) | (rw [if_neg (by decide +kernel)]; exact ⟨rfl, rfl⟩))
    (fun os started H enc _ => lifted os started H enc)
#print axioms proved
end Go.Proofs.Ytihilifpadpkbaa.netFull
