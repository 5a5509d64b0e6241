/- Contracts: what a request's kind names, in order (request.parts, request.Name, request.asked.run). -/
import Derived.Test.YtbmphlpmipkpcaaGreatRsm9

set_option linter.unusedVariables false
set_option linter.unusedSimpArgs false
namespace Go.Proofs.YtbmphlpmipkpcaaGreat
open Go.RowKit

namespace Rq
def fnV (i : Nat) : Value := .func (.func i) #[] #[]
/-- a kind's parts -/
def partsF (k : Int) : List Nat := if k = 1 then [131, 132, 133, 134, 135] else if k = 2 then [131, 132, 136, 137, 138] else if k = 3 then [131, 132, 136] else if k = 4 then [131, 132, 136, 139] else if k = 5 then [131, 132, 136, 139, 140, 135] else if k = 6 then [131, 132, 136, 137] else if k = 7 then [131, 132, 136, 137] else if k = 8 then [136] else if k = 9 then [133] else if k = 10 then [141] else []
/-- a kind's name -/
def nameL (k : Int) : List UInt8 := if k = 1 then [105, 115, 115, 117, 101] else if k = 2 then [109, 111, 118, 101] else if k = 3 then [118, 111, 105, 100] else if k = 4 then [114, 101, 102, 117, 110, 100] else if k = 5 then [101, 120, 99, 104, 97, 110, 103, 101] else if k = 6 then [97, 115, 107] else if k = 7 then [114, 101, 116, 117, 114, 110] else if k = 8 then [115, 104, 111, 119] else if k = 9 then [102, 105, 110, 100] else if k = 10 then [114, 101, 112, 111, 114, 116] else []
def FnL (w : World) (v : Value) (fs : List Nat) : Prop := ∃ (q : Option Addr) (c : Nat), v = .slice q fs.length c ∧ (fs ≠ [] → ∃ g, q = some ⟨g, 0, none⟩ ∧ w.heap[g]? = some (.cells (fs.map fnV).toArray 200 (0, 0)))
/-- blocks of functions stay -/
def KF (w w' : World) : Prop := ∀ (g : Nat) (cs : Array Value) (fr : Nat × Nat), w.heap[g]? = some (.cells cs 200 fr) → w'.heap[g]? = some (.cells cs 200 fr)
theorem KF.refl (w : World) : KF w w := fun _ _ _ h => h
theorem KF.trans {a b c : World} (h : KF a b) (k : KF b c) : KF a c := fun g cs fr hg => k g cs fr (h g cs fr hg)
theorem KF.of_below {w w' : World} (h : Below w.heap.size w w') : KF w w' := fun g cs fr hg => (h.block g (block_lt hg)).trans hg
theorem FnL.keep {w w' : World} {v : Value} {fs : List Nat} (h : FnL w v fs) (k : KF w w') : FnL w' v fs := by
  obtain ⟨q, c, e, h⟩ := h
  exact ⟨q, c, e, fun hn => by obtain ⟨g, e1, h1⟩ := h hn; exact ⟨g, e1, k _ _ _ h1⟩⟩
theorem kind_cases (k : Int) : k = 1 ∨ k = 2 ∨ k = 3 ∨ k = 4 ∨ k = 5 ∨ k = 6 ∨ k = 7 ∨ k = 8 ∨ k = 9 ∨ k = 10 ∨ (k < 1 ∨ 10 < k) := by omega
theorem parts_out {k : Int} (h : k < 1 ∨ 10 < k) : partsF k = [] ∧ nameL k = [] := by
  unfold partsF nameL
  constructor
  all_goals iterate 10 rw [if_neg (by omega)]
theorem parts_len (k : Int) : (partsF k).length ≤ 6 := by
  rcases kind_cases k with rfl | rfl | rfl | rfl | rfl | rfl | rfl | rfl | rfl | rfl | h
  all_goals first | decide | (rw [(parts_out h).1]; decide)
theorem parts_mem {k : Int} {f : Nat} (h : f ∈ partsF k) : f = 131 ∨ f = 132 ∨ f = 133 ∨ f = 136 ∨ f = 137 ∨ f = 138 ∨ f = 139 ∨ f = 134 ∨ f = 140 ∨ f = 135 ∨ f = 141 := by
  rcases kind_cases k with rfl | rfl | rfl | rfl | rfl | rfl | rfl | rfl | rfl | rfl | hk
  all_goals first | (simp [partsF] at h; omega) | (rw [(parts_out hk).1] at h; cases h)
end Rq

set_option maxRecDepth 8000 in
set_option maxHeartbeats 2000000 in
theorem rqParts_any (k : Int) (w : World) : Calls Tryz.prog 76 #[.int .i64 k] w fun e w' => ∃ v, e = .returned (.tuple #[.string ⟨(Rq.nameL k).toArray⟩, v]) ∧ Rq.FnL w' v (Rq.partsF k) ∧ Below w.heap.size w w' := by
  rcases Rq.kind_cases k with rfl | rfl | rfl | rfl | rfl | rfl | rfl | rfl | rfl | rfl | h
  · go_enter Tryz.func76, Tryz.ntmps76
    go_wp2
    go_ret2
    refine ⟨_, rfl, ⟨_, _, rfl, fun _ => ⟨w.heap.size, rfl, new_rowW w (.cells #[.func (.func 131) #[] #[], .func (.func 132) #[] #[], .func (.func 133) #[] #[], .func (.func 134) #[] #[], .func (.func 135) #[] #[]] 200) _ rfl⟩⟩, (Below.refl _ _).alloc (Nat.le_refl _) _⟩
  · go_enter Tryz.func76, Tryz.ntmps76
    go_wp2
    go_ret2
    refine ⟨_, rfl, ⟨_, _, rfl, fun _ => ⟨w.heap.size, rfl, new_rowW w (.cells #[.func (.func 131) #[] #[], .func (.func 132) #[] #[], .func (.func 136) #[] #[], .func (.func 137) #[] #[], .func (.func 138) #[] #[]] 200) _ rfl⟩⟩, (Below.refl _ _).alloc (Nat.le_refl _) _⟩
  · go_enter Tryz.func76, Tryz.ntmps76
    go_wp2
    go_ret2
    refine ⟨_, rfl, ⟨_, _, rfl, fun _ => ⟨w.heap.size, rfl, new_rowW w (.cells #[.func (.func 131) #[] #[], .func (.func 132) #[] #[], .func (.func 136) #[] #[]] 200) _ rfl⟩⟩, (Below.refl _ _).alloc (Nat.le_refl _) _⟩
  · go_enter Tryz.func76, Tryz.ntmps76
    go_wp2
    go_ret2
    refine ⟨_, rfl, ⟨_, _, rfl, fun _ => ⟨w.heap.size, rfl, new_rowW w (.cells #[.func (.func 131) #[] #[], .func (.func 132) #[] #[], .func (.func 136) #[] #[], .func (.func 139) #[] #[]] 200) _ rfl⟩⟩, (Below.refl _ _).alloc (Nat.le_refl _) _⟩
  · go_enter Tryz.func76, Tryz.ntmps76
    go_wp2
    go_ret2
    refine ⟨_, rfl, ⟨_, _, rfl, fun _ => ⟨w.heap.size, rfl, new_rowW w (.cells #[.func (.func 131) #[] #[], .func (.func 132) #[] #[], .func (.func 136) #[] #[], .func (.func 139) #[] #[], .func (.func 140) #[] #[], .func (.func 135) #[] #[]] 200) _ rfl⟩⟩, (Below.refl _ _).alloc (Nat.le_refl _) _⟩
  · go_enter Tryz.func76, Tryz.ntmps76
    go_wp2
    go_ret2
    refine ⟨_, rfl, ⟨_, _, rfl, fun _ => ⟨w.heap.size, rfl, new_rowW w (.cells #[.func (.func 131) #[] #[], .func (.func 132) #[] #[], .func (.func 136) #[] #[], .func (.func 137) #[] #[]] 200) _ rfl⟩⟩, (Below.refl _ _).alloc (Nat.le_refl _) _⟩
  · go_enter Tryz.func76, Tryz.ntmps76
    go_wp2
    go_ret2
    refine ⟨_, rfl, ⟨_, _, rfl, fun _ => ⟨w.heap.size, rfl, new_rowW w (.cells #[.func (.func 131) #[] #[], .func (.func 132) #[] #[], .func (.func 136) #[] #[], .func (.func 137) #[] #[]] 200) _ rfl⟩⟩, (Below.refl _ _).alloc (Nat.le_refl _) _⟩
  · go_enter Tryz.func76, Tryz.ntmps76
    go_wp2
    go_ret2
    refine ⟨_, rfl, ⟨_, _, rfl, fun _ => ⟨w.heap.size, rfl, new_rowW w (.cells #[.func (.func 136) #[] #[]] 200) _ rfl⟩⟩, (Below.refl _ _).alloc (Nat.le_refl _) _⟩
  · go_enter Tryz.func76, Tryz.ntmps76
    go_wp2
    go_ret2
    refine ⟨_, rfl, ⟨_, _, rfl, fun _ => ⟨w.heap.size, rfl, new_rowW w (.cells #[.func (.func 133) #[] #[]] 200) _ rfl⟩⟩, (Below.refl _ _).alloc (Nat.le_refl _) _⟩
  · go_enter Tryz.func76, Tryz.ntmps76
    go_wp2
    go_ret2
    refine ⟨_, rfl, ⟨_, _, rfl, fun _ => ⟨w.heap.size, rfl, new_rowW w (.cells #[.func (.func 141) #[] #[]] 200) _ rfl⟩⟩, (Below.refl _ _).alloc (Nat.le_refl _) _⟩
  · have hp := Rq.parts_out h
    rw [hp.1, hp.2]
    have h1 : ¬ k = 1 := by omega
    have h2 : ¬ k = 2 := by omega
    have h3 : ¬ k = 3 := by omega
    have h4 : ¬ k = 4 := by omega
    have h5 : ¬ k = 5 := by omega
    have h6 : ¬ k = 6 := by omega
    have h7 : ¬ k = 7 := by omega
    have h8 : ¬ k = 8 := by omega
    have h9 : ¬ k = 9 := by omega
    have h10 : ¬ k = 10 := by omega
    clear hp h
    go_enter Tryz.func76, Tryz.ntmps76
    go_wp2
    go_ret2
    exact ⟨_, rfl, ⟨none, 0, rfl, fun hn => absurd rfl hn⟩, Below.refl _ _⟩

set_option maxHeartbeats 400000 in
theorem rqName_any (k : Int) (w : World) : Calls Tryz.prog 30 #[.int .i64 k] w fun e w' => e = .returned (.string ⟨(Rq.nameL k).toArray⟩) ∧ Below w.heap.size w w' := by
  have HP := Lib.hid (rqParts_any k w)
  generalize Rq.nameL k = nm at *
  go_enter Tryz.func30, Tryz.ntmps30
  go_wp2_with fail
  refine HP.out.mono ?_
  rintro e w1 ⟨v, rfl, -, hb⟩
  have HB := Lib.hid hb
  clear hb
  go_wp2
  go_ret
  exact ⟨rfl, HB.out⟩

set_option maxRecDepth 4000 in
set_option maxHeartbeats 1000000 in
theorem arun_chain (g gq : Nat) (k : Int) (cs ds : Array Value) (St : Nat → World → Prop) (w : World) (hx : w.heap[g]? = some (.cells cs 125 (0, 0))) (hy : w.heap[gq]? = some (.cells ds 57 (0, 0))) (h3 : cs[3]? = some (.pointer (some ⟨gq, 0, none⟩))) (hk : ds[1]? = some (.int .i64 k))
    (h0 : ∀ W, Below w.heap.size w W → St 0 W)
    (hst : ∀ (j f : Nat) (W : World), (Rq.partsF k)[j]? = some f → St j W → Calls Tryz.prog f #[.pointer (some ⟨g, 0, none⟩)] W fun e w' => e = .returned (.tuple #[]) ∧ St (j + 1) w' ∧ Rq.KF W w') :
    Calls Tryz.prog 72 #[.pointer (some ⟨g, 0, none⟩)] w fun e w' => e = .returned (.tuple #[]) ∧ St (Rq.partsF k).length w' := by
  have c3 : w.cell? ⟨g, 3, none⟩ = some (.pointer (some ⟨gq, 0, none⟩)) := (cell_of_row w g 3 _ _ _ hx).trans h3
  have c1 : w.cell? ⟨gq, 1, none⟩ = some (.int .i64 k) := (cell_of_row w gq 1 _ _ _ hy).trans hk
  have HP := Lib.hid (rqParts_any k w)
  have HLE := Lib.hid (Rq.parts_len k)
  have HFM := Lib.hid (fun f h => Rq.parts_mem (k := k) (f := f) h)
  have H0 := Lib.hid h0; have HST := Lib.hid hst
  clear hx hy h3 hk h0 hst
  generalize Rq.partsF k = fs at *
  generalize Rq.nameL k = nm at *
  go_enter Tryz.func72, Tryz.ntmps72
  go_wp2_with fail
  refine HP.out.mono ?_
  rintro e w1 ⟨v, rfl, ⟨q, c, rfl, hfn⟩, hb⟩
  have HS := Lib.hid (H0.out _ hb)
  have HFN := Lib.hid hfn
  obtain ⟨n, hn⟩ : ∃ n, fs.length = n := ⟨_, rfl⟩
  clear hb hfn c1 c3 HP H0
  have HFK : Hid (Rq.FnL w1 (.slice q fs.length c) fs) := Lib.hid ⟨q, c, rfl, HFN.out⟩
  rw [hn] at HFK HLE ⊢
  have HNF := Lib.hid hn
  have hn6 : n ≤ 9223372036854775807 := by have := HLE.out; omega
  clear hn
  clear HFN
  go_wp2_with fail
  go_loopw [19] (fun i wr => ∃ j : Nat, j ≤ n ∧ i = .int .i64 j ∧ St j wr ∧ Rq.FnL wr (.slice q n c) fs) (fun i _ => n - (intOf i).toNat)
  case atStart => exact ⟨0, Nat.zero_le _, rfl, HS.out, HFK.out⟩
  case round =>
    obtain ⟨j, hj, rfl, hs, hf⟩ := hrel
    have HSJ := Lib.hid hs; have HFJ := Lib.hid hf
    clear hs hf
    by_cases hlt : j < n
    · obtain ⟨f, hf⟩ : ∃ f, fs[j]? = some f := ⟨_, List.getElem?_eq_getElem (by have := HNF.out; omega)⟩
      obtain ⟨q', c', e1, h1⟩ := HFJ.out
      injection e1 with e1 e2 e3
      subst e1 e3; clear e2
      obtain ⟨gf, hq, hr⟩ := h1 (by intro hn; rw [hn] at hf; cases hf)
      subst hq
      have hcf : wr.cell? ⟨gf, j, none⟩ = some (Rq.fnV f) := by
        rw [cell_of_row wr gf j _ _ _ hr, List.getElem?_toArray, List.getElem?_map, hf]; rfl
      unfold Rq.fnV at hcf
      have HF := Lib.hid hf
      have hlf : gf < wr.heap.size := block_lt hr
      have hfm := HFM.out f (List.mem_of_getElem? hf)
      have HFS := Lib.hid (HST.out j f _ HF.out HSJ.out)
      clear hr h1 hf
      rcases hfm with rfl | rfl | rfl | rfl | rfl | rfl | rfl | rfl | rfl | rfl | rfl
      all_goals
        go_wp2_with fail
        refine HFS.out.mono ?_
        rintro e w3 ⟨rfl, hs3, hk3⟩
        have HS3 := Lib.hid hs3
        have HF3 := Lib.hid (HFJ.out.keep hk3)
        clear hs3 hk3 hcf hlf HFS
        go_wp2
        go_roundw
        case rel => exact ⟨j + 1, by omega, by go_num, HS3.out, HF3.out⟩
        case measure => simp [intOf]; omega
    · obtain rfl : j = n := by omega
      go_wp2
      first | go_end0 | refine bodyPost_ret (results_none rfl _ _ _) rfl ?_
      exact ⟨rfl, by rw [HNF.out]; exact HSJ.out⟩
end Go.Proofs.YtbmphlpmipkpcaaGreat
