/- Contracts: what a request's kind names, in order (request.parts, request.Name, request.asked.run). Contracts of the reference's string functions on digits: text, digit, worth, Digits. -/
import Derived.Test.YtbmphlpmipkpcaaGreatRnm7
import Derived.Test.YtbmphlpmipkpcaaGreatRnm5
import Derived.Test.YtbmphlpmipkpcaaGreatRnm1

section
set_option linter.unusedVariables false
set_option linter.unusedSimpArgs false
namespace Go.Proofs.YtbmphlpmipkpcaaGreat
open Go.RowKit

namespace Rq
def fnV (i : Nat) : Value := .func (.func i) #[] #[]
/-- a kind's parts -/
def partsF (k : Int) : List Nat := if k = 1 then [131, 132, 133, 134, 135] else if k = 2 then [131, 132, 136, 137, 138] else if k = 3 then [131, 132, 136] else if k = 4 then [131, 132, 136, 139] else if k = 5 then [131, 132, 136, 139, 140, 135] else if k = 6 then [131, 132, 136, 137] else if k = 7 then [131, 132, 136, 137] else if k = 8 then [136] else if k = 9 then [133] else if k = 10 then [141] else []
/-- a kind's name -/
def nameL (k : Int) : List UInt8 := if k = 1 then [105, 115, 115, 117, 101] else if k = 2 then [109, 111, 118, 101] else if k = 3 then [118, 111, 105, 100] else if k = 4 then [114, 101, 102, 117, 110, 100] else if k = 5 then [101, 120, 99, 104, 97, 110, 103, 101] else if k = 6 then [97, 115, 107] else if k = 7 then [114, 101, 116, 117, 114, 110] else if k = 8 then [115, 104, 111, 119] else if k = 9 then [102, 105, 110, 100] else if k = 10 then [114, 101, 112, 111, 114, 116] else []
def FnL (w : World) (v : Value) (fs : List Nat) : Prop := ∃ (q : Option Addr) (c : Nat), v = .slice q fs.length c ∧ (fs ≠ [] → ∃ g, q = some ⟨g, 0, none⟩ ∧ w.heap[g]? = some (.cells (fs.map fnV).toArray 200 (0, 0)))
/-- blocks of functions stay -/
def KF (w w' : World) : Prop := ∀ (g : Nat) (cs : Array Value) (fr : Nat × Nat), w.heap[g]? = some (.cells cs 200 fr) → w'.heap[g]? = some (.cells cs 200 fr)
theorem KF.refl (w : World) : KF w w := fun _ _ _ h => h
theorem KF.trans {a b c : World} (h : KF a b) (k : KF b c) : KF a c := fun g cs fr hg => k g cs fr (h g cs fr hg)
theorem KF.of_below {w w' : World} (h : Below w.heap.size w w') : KF w w' := fun g cs fr hg => (h.block g (block_lt hg)).trans hg
theorem FnL.keep {w w' : World} {v : Value} {fs : List Nat} (h : FnL w v fs) (k : KF w w') : FnL w' v fs := by
  obtain ⟨q, c, e, h⟩ := h
  exact ⟨q, c, e, fun hn => by obtain ⟨g, e1, h1⟩ := h hn; exact ⟨g, e1, k _ _ _ h1⟩⟩
theorem kind_cases (k : Int) : k = 1 ∨ k = 2 ∨ k = 3 ∨ k = 4 ∨ k = 5 ∨ k = 6 ∨ k = 7 ∨ k = 8 ∨ k = 9 ∨ k = 10 ∨ (k < 1 ∨ 10 < k) := by omega
theorem parts_out {k : Int} (h : k < 1 ∨ 10 < k) : partsF k = [] ∧ nameL k = [] := by
  unfold partsF nameL
  constructor
  all_goals iterate 10 rw [if_neg (by omega)]
theorem parts_len (k : Int) : (partsF k).length ≤ 6 := by
  rcases kind_cases k with rfl | rfl | rfl | rfl | rfl | rfl | rfl | rfl | rfl | rfl | h
  all_goals first | decide | (rw [(parts_out h).1]; decide)
theorem parts_mem {k : Int} {f : Nat} (h : f ∈ partsF k) : f = 131 ∨ f = 132 ∨ f = 133 ∨ f = 136 ∨ f = 137 ∨ f = 138 ∨ f = 139 ∨ f = 134 ∨ f = 140 ∨ f = 135 ∨ f = 141 := by
  rcases kind_cases k with rfl | rfl | rfl | rfl | rfl | rfl | rfl | rfl | rfl | rfl | hk
  all_goals first | (simp [partsF] at h; omega) | (rw [(parts_out hk).1] at h; cases h)
end Rq

set_option maxRecDepth 8000 in
set_option maxHeartbeats 2000000 in
theorem rqParts_any (k : Int) (w : World) : Calls Tryz.prog 76 #[.int .i64 k] w fun e w' => ∃ v, e = .returned (.tuple #[.string ⟨(Rq.nameL k).toArray⟩, v]) ∧ Rq.FnL w' v (Rq.partsF k) ∧ Below w.heap.size w w' := by
  rcases Rq.kind_cases k with rfl | rfl | rfl | rfl | rfl | rfl | rfl | rfl | rfl | rfl | h
  · go_enter Tryz.func76, Tryz.ntmps76
    go_wp2
    go_ret2
    refine ⟨_, rfl, ⟨_, _, rfl, fun _ => ⟨w.heap.size, rfl, new_rowW w (.cells #[.func (.func 131) #[] #[], .func (.func 132) #[] #[], .func (.func 133) #[] #[], .func (.func 134) #[] #[], .func (.func 135) #[] #[]] 200) _ rfl⟩⟩, (Below.refl _ _).alloc (Nat.le_refl _) _⟩
  · go_enter Tryz.func76, Tryz.ntmps76
    go_wp2
    go_ret2
    refine ⟨_, rfl, ⟨_, _, rfl, fun _ => ⟨w.heap.size, rfl, new_rowW w (.cells #[.func (.func 131) #[] #[], .func (.func 132) #[] #[], .func (.func 136) #[] #[], .func (.func 137) #[] #[], .func (.func 138) #[] #[]] 200) _ rfl⟩⟩, (Below.refl _ _).alloc (Nat.le_refl _) _⟩
  · go_enter Tryz.func76, Tryz.ntmps76
    go_wp2
    go_ret2
    refine ⟨_, rfl, ⟨_, _, rfl, fun _ => ⟨w.heap.size, rfl, new_rowW w (.cells #[.func (.func 131) #[] #[], .func (.func 132) #[] #[], .func (.func 136) #[] #[]] 200) _ rfl⟩⟩, (Below.refl _ _).alloc (Nat.le_refl _) _⟩
  · go_enter Tryz.func76, Tryz.ntmps76
    go_wp2
    go_ret2
    refine ⟨_, rfl, ⟨_, _, rfl, fun _ => ⟨w.heap.size, rfl, new_rowW w (.cells #[.func (.func 131) #[] #[], .func (.func 132) #[] #[], .func (.func 136) #[] #[], .func (.func 139) #[] #[]] 200) _ rfl⟩⟩, (Below.refl _ _).alloc (Nat.le_refl _) _⟩
  · go_enter Tryz.func76, Tryz.ntmps76
    go_wp2
    go_ret2
    refine ⟨_, rfl, ⟨_, _, rfl, fun _ => ⟨w.heap.size, rfl, new_rowW w (.cells #[.func (.func 131) #[] #[], .func (.func 132) #[] #[], .func (.func 136) #[] #[], .func (.func 139) #[] #[], .func (.func 140) #[] #[], .func (.func 135) #[] #[]] 200) _ rfl⟩⟩, (Below.refl _ _).alloc (Nat.le_refl _) _⟩
  · go_enter Tryz.func76, Tryz.ntmps76
    go_wp2
    go_ret2
    refine ⟨_, rfl, ⟨_, _, rfl, fun _ => ⟨w.heap.size, rfl, new_rowW w (.cells #[.func (.func 131) #[] #[], .func (.func 132) #[] #[], .func (.func 136) #[] #[], .func (.func 137) #[] #[]] 200) _ rfl⟩⟩, (Below.refl _ _).alloc (Nat.le_refl _) _⟩
  · go_enter Tryz.func76, Tryz.ntmps76
    go_wp2
    go_ret2
    refine ⟨_, rfl, ⟨_, _, rfl, fun _ => ⟨w.heap.size, rfl, new_rowW w (.cells #[.func (.func 131) #[] #[], .func (.func 132) #[] #[], .func (.func 136) #[] #[], .func (.func 137) #[] #[]] 200) _ rfl⟩⟩, (Below.refl _ _).alloc (Nat.le_refl _) _⟩
  · go_enter Tryz.func76, Tryz.ntmps76
    go_wp2
    go_ret2
    refine ⟨_, rfl, ⟨_, _, rfl, fun _ => ⟨w.heap.size, rfl, new_rowW w (.cells #[.func (.func 136) #[] #[]] 200) _ rfl⟩⟩, (Below.refl _ _).alloc (Nat.le_refl _) _⟩
  · go_enter Tryz.func76, Tryz.ntmps76
    go_wp2
    go_ret2
    refine ⟨_, rfl, ⟨_, _, rfl, fun _ => ⟨w.heap.size, rfl, new_rowW w (.cells #[.func (.func 133) #[] #[]] 200) _ rfl⟩⟩, (Below.refl _ _).alloc (Nat.le_refl _) _⟩
  · go_enter Tryz.func76, Tryz.ntmps76
    go_wp2
    go_ret2
    refine ⟨_, rfl, ⟨_, _, rfl, fun _ => ⟨w.heap.size, rfl, new_rowW w (.cells #[.func (.func 141) #[] #[]] 200) _ rfl⟩⟩, (Below.refl _ _).alloc (Nat.le_refl _) _⟩
  · have hp := Rq.parts_out h
    rw [hp.1, hp.2]
    have h1 : ¬ k = 1 := by omega
    have h2 : ¬ k = 2 := by omega
    have h3 : ¬ k = 3 := by omega
    have h4 : ¬ k = 4 := by omega
    have h5 : ¬ k = 5 := by omega
    have h6 : ¬ k = 6 := by omega
    have h7 : ¬ k = 7 := by omega
    have h8 : ¬ k = 8 := by omega
    have h9 : ¬ k = 9 := by omega
    have h10 : ¬ k = 10 := by omega
    clear hp h
    go_enter Tryz.func76, Tryz.ntmps76
    go_wp2
    go_ret2
    exact ⟨_, rfl, ⟨none, 0, rfl, fun hn => absurd rfl hn⟩, Below.refl _ _⟩

set_option maxHeartbeats 400000 in
theorem rqName_any (k : Int) (w : World) : Calls Tryz.prog 30 #[.int .i64 k] w fun e w' => e = .returned (.string ⟨(Rq.nameL k).toArray⟩) ∧ Below w.heap.size w w' := by
  have HP := Lib.hid (rqParts_any k w)
  generalize Rq.nameL k = nm at *
  go_enter Tryz.func30, Tryz.ntmps30
  go_wp2_with fail
  refine HP.out.mono ?_
  rintro e w1 ⟨v, rfl, -, hb⟩
  have HB := Lib.hid hb
  clear hb
  go_wp2
  go_ret
  exact ⟨rfl, HB.out⟩

set_option maxRecDepth 4000 in
set_option maxHeartbeats 1000000 in
theorem arun_chain (g gq : Nat) (k : Int) (cs ds : Array Value) (St : Nat → World → Prop) (w : World) (hx : w.heap[g]? = some (.cells cs 125 (0, 0))) (hy : w.heap[gq]? = some (.cells ds 57 (0, 0))) (h3 : cs[3]? = some (.pointer (some ⟨gq, 0, none⟩))) (hk : ds[1]? = some (.int .i64 k))
    (h0 : ∀ W, Below w.heap.size w W → St 0 W)
    (hst : ∀ (j f : Nat) (W : World), (Rq.partsF k)[j]? = some f → St j W → Calls Tryz.prog f #[.pointer (some ⟨g, 0, none⟩)] W fun e w' => e = .returned (.tuple #[]) ∧ St (j + 1) w' ∧ Rq.KF W w') :
    Calls Tryz.prog 72 #[.pointer (some ⟨g, 0, none⟩)] w fun e w' => e = .returned (.tuple #[]) ∧ St (Rq.partsF k).length w' := by
  have c3 : w.cell? ⟨g, 3, none⟩ = some (.pointer (some ⟨gq, 0, none⟩)) := (cell_of_row w g 3 _ _ _ hx).trans h3
  have c1 : w.cell? ⟨gq, 1, none⟩ = some (.int .i64 k) := (cell_of_row w gq 1 _ _ _ hy).trans hk
  have HP := Lib.hid (rqParts_any k w)
  have HLE := Lib.hid (Rq.parts_len k)
  have HFM := Lib.hid (fun f h => Rq.parts_mem (k := k) (f := f) h)
  have H0 := Lib.hid h0; have HST := Lib.hid hst
  clear hx hy h3 hk h0 hst
  generalize Rq.partsF k = fs at *
  generalize Rq.nameL k = nm at *
  go_enter Tryz.func72, Tryz.ntmps72
  go_wp2_with fail
  refine HP.out.mono ?_
  rintro e w1 ⟨v, rfl, ⟨q, c, rfl, hfn⟩, hb⟩
  have HS := Lib.hid (H0.out _ hb)
  have HFN := Lib.hid hfn
  obtain ⟨n, hn⟩ : ∃ n, fs.length = n := ⟨_, rfl⟩
  clear hb hfn c1 c3 HP H0
  have HFK : Hid (Rq.FnL w1 (.slice q fs.length c) fs) := Lib.hid ⟨q, c, rfl, HFN.out⟩
  rw [hn] at HFK HLE ⊢
  have HNF := Lib.hid hn
  have hn6 : n ≤ 9223372036854775807 := by have := HLE.out; omega
  clear hn
  clear HFN
  go_wp2_with fail
  go_loopw [19] (fun i wr => ∃ j : Nat, j ≤ n ∧ i = .int .i64 j ∧ St j wr ∧ Rq.FnL wr (.slice q n c) fs) (fun i _ => n - (intOf i).toNat)
  case atStart => exact ⟨0, Nat.zero_le _, rfl, HS.out, HFK.out⟩
  case round =>
    obtain ⟨j, hj, rfl, hs, hf⟩ := hrel
    have HSJ := Lib.hid hs; have HFJ := Lib.hid hf
    clear hs hf
    by_cases hlt : j < n
    · obtain ⟨f, hf⟩ : ∃ f, fs[j]? = some f := ⟨_, List.getElem?_eq_getElem (by have := HNF.out; omega)⟩
      obtain ⟨q', c', e1, h1⟩ := HFJ.out
      injection e1 with e1 e2 e3
      subst e1 e3; clear e2
      obtain ⟨gf, hq, hr⟩ := h1 (by intro hn; rw [hn] at hf; cases hf)
      subst hq
      have hcf : wr.cell? ⟨gf, j, none⟩ = some (Rq.fnV f) := by
        rw [cell_of_row wr gf j _ _ _ hr, List.getElem?_toArray, List.getElem?_map, hf]; rfl
      unfold Rq.fnV at hcf
      have HF := Lib.hid hf
      have hlf : gf < wr.heap.size := block_lt hr
      have hfm := HFM.out f (List.mem_of_getElem? hf)
      have HFS := Lib.hid (HST.out j f _ HF.out HSJ.out)
      clear hr h1 hf
      rcases hfm with rfl | rfl | rfl | rfl | rfl | rfl | rfl | rfl | rfl | rfl | rfl
      all_goals
        go_wp2_with fail
        refine HFS.out.mono ?_
        rintro e w3 ⟨rfl, hs3, hk3⟩
        have HS3 := Lib.hid hs3
        have HF3 := Lib.hid (HFJ.out.keep hk3)
        clear hs3 hk3 hcf hlf HFS
        go_wp2
        go_roundw
        case rel => exact ⟨j + 1, by omega, by go_num, HS3.out, HF3.out⟩
        case measure => simp [intOf]; omega
    · obtain rfl : j = n := by omega
      go_wp2
      first | go_end0 | refine bodyPost_ret (results_none rfl _ _ _) rfl ?_
      exact ⟨rfl, by rw [HNF.out]; exact HSJ.out⟩
end Go.Proofs.YtbmphlpmipkpcaaGreat
end

section
set_option linter.unusedSimpArgs false
set_option linter.unusedVariables false
namespace Go.Proofs.YtbmphlpmipkpcaaGreat
open Go.RowKit

theorem mem_of_lt (s : ByteArray) (k : Nat) (h : k < s.size) : s[k] ∈ s.data.toList := by
  have : s[k] = s.data.toList[k]'(by simpa using h) := rfl
  rw [this]; exact List.getElem_mem _
theorem take_snoc (s : ByteArray) (k : Nat) (h : k < s.size) : s.data.toList.take (k + 1) = s.data.toList.take k ++ [s[k]] := by
  rw [List.take_succ_eq_append_getElem (by simpa using h)]; rfl
theorem take_end (s : ByteArray) (k : Nat) (h : ¬ k < s.size) : s.data.toList.take k = s.data.toList := List.take_of_length_le (by simp; omega)
theorem cons_string (c : UInt8) (l : List UInt8) : Value.string (⟨#[c]⟩ ++ ⟨l.toArray⟩) = .string ⟨(c :: l).toArray⟩ := by
  congr 1
theorem ret_string {a b : ByteArray} (h : a = b) : Ending.returned (.string a) = .returned (.string b) := by rw [h]

/-- 'string([]byte{x})': the one byte. -/
theorem conv_one {P : Program} (src dst e : TypeId) (hs : P.underlying src = some (.slice e)) (he : P.underlying e = some (.int .u8)) (hd : P.underlying dst = some .string)
    (n : Int) (c : UInt8) (hn : n = (c.toNat : Int)) (W : World) :
    (convert src dst (.slice (some ⟨W.heap.size, 0, none⟩) 1 1)).run P (W.alloc (.cells #[.int .u8 n] e)) = .ok (.string ⟨#[c]⟩) (W.alloc (.cells #[.int .u8 n] e)) := by
  subst hn
  refine run_convert_bytes_back (P := P) _ src dst e ⟨W.heap.size, 0, none⟩ 1 [c] hs he hd ?_
  intro j hj
  have : j = 0 := by simpa using hj
  subst this
  simp [Addr.add, World.cell?_alloc_mark]

set_option maxHeartbeats 400000 in
theorem rtext_any (n many : Int) (h0 : 0 ≤ n) (h1 : n ≤ 999999999) (m0 : 0 ≤ many) (m1 : many ≤ 20) (w : World) :
    Calls Tryz.prog 173 #[.int .i64 n, .int .i64 many] w fun e w' => e = .returned (.string ⟨(Dec.text n.toNat many.toNat).toArray⟩) ∧ Below w.heap.size w w' := by
  obtain ⟨N, rfl⟩ := Int.eq_ofNat_of_zero_le h0
  obtain ⟨m, rfl⟩ := Int.eq_ofNat_of_zero_le m0
  simp only [Int.toNat_natCast]
  go_enter Tryz.func173, Tryz.ntmps173
  go_wp2
  go_loopw [0, 5, 6] (fun n5 s i wr => ∃ (k N' : Nat) (acc : List UInt8), k ≤ m ∧ i = .int .i64 k ∧ n5 = .int .i64 N' ∧ N' ≤ 999999999 ∧ s = .string ⟨acc.toArray⟩ ∧ acc.length ≤ k ∧ Dec.text N m = Dec.text N' (m - k) ++ acc ∧ Below w.heap.size w wr)
    (fun _ _ i _ => m - (intOf i).toNat)
  case atStart => exact ⟨0, N, [], Nat.zero_le _, rfl, rfl, by omega, rfl, by simp, by simp, Below.refl _ _⟩
  case round =>
    obtain ⟨k, N', acc, hk, rfl, rfl, hN, rfl, hal, ht, hb⟩ := hrel
    have HT := Lib.hid ht; clear ht
    by_cases hlt : k < m
    · have hcv := conv_one (P := Tryz.prog) 47 9 5 Tryz.underlying47 Tryz.underlying5 Tryz.underlying9 (48 + (N' : Int) % 10) (Dec.dig N') (by rw [Dec.dig_toNat]; omega)
      go_wp2
      go_roundw
      case rel =>
        refine ⟨k + 1, N' / 10, Dec.dig N' :: acc, by omega, by go_num, by go_num, by omega, cons_string _ _, by simp; omega, ?_, hb.alloc hb.size _⟩
        rw [HT.out, show m - k = (m - (k + 1)) + 1 from by omega]
        simp [Dec.text]
      case measure => simp [intOf]; omega
    · go_wp2
      go_ret
      refine ⟨ret_string ?_, hb⟩
      rw [HT.out, show m - k = 0 from by omega]
      rfl

set_option maxHeartbeats 400000 in
theorem rdigit_any (s : ByteArray) (hd : s.data.toList.all Dec.isDig = true) (hs : s.size ≤ 100) (w : World) :
    Calls Tryz.prog 174 #[.string s] w fun e w' => e = .returned (.int .u8 (48 + (Dec.val s.data.toList : Int) % 7)) ∧ w = w' := by
  have HA := Lib.hid hd; clear hd
  go_enter Tryz.func174, Tryz.ntmps174
  go_wp2
  go_loop [3, 4] (fun r i => ∃ (k a : Nat), k ≤ s.size ∧ i = .int .i64 k ∧ r = .int .i64 a ∧ a < 7 ∧ Dec.val (s.data.toList.take k) % 7 = a) (fun _ i => s.size - (intOf i).toNat)
  case atStart => exact ⟨0, 0, Nat.zero_le _, rfl, rfl, by omega, rfl⟩
  case round =>
    obtain ⟨k, a, hk, rfl, rfl, ha, hv⟩ := hrel
    have HV := Lib.hid hv; clear hv
    by_cases hlt : k < s.size
    · have hdk : 48 ≤ (s[k].toNat : Int) ∧ (s[k].toNat : Int) ≤ 57 := by
        have := List.all_eq_true.1 HA.out s[k] (mem_of_lt s k hlt)
        have := Dec.isDig_iff.1 this
        omega
      obtain ⟨hd1, hd2⟩ := hdk
      have HS : Hid (Dec.val (s.data.toList.take (k + 1)) = 10 * Dec.val (s.data.toList.take k) + Dec.dval s[k]) := Lib.hid (by rw [take_snoc s k hlt, Dec.val_snoc])
      go_wp2
      go_round
      case rel => exact ⟨k + 1, (10 * a + (s[k].toNat - 48)) % 7, by omega, by go_num, by go_num, by omega, by rw [HS.out]; have := HV.out; unfold Dec.dval; omega⟩
      case measure => simp [intOf]; omega
    · have HE := Lib.hid (take_end s k hlt)
      go_wp2
      go_ret
      refine ⟨ret_int ?_, rfl⟩
      have := HV.out
      rw [HE.out] at this
      omega

set_option maxHeartbeats 400000 in
theorem rworth_any (s : ByteArray) (hd : s.data.toList.all Dec.isDig = true) (hs : s.size ≤ 18) (w : World) :
    Calls Tryz.prog 103 #[.string s] w fun e w' => e = .returned (.int .u64 (Dec.val s.data.toList : Int)) ∧ w = w' := by
  have HA := Lib.hid hd; clear hd
  go_enter Tryz.func103, Tryz.ntmps103
  go_wp2
  go_loop [3, 4] (fun r i => ∃ (k a : Nat), k ≤ s.size ∧ i = .int .i64 k ∧ r = .int .u64 a ∧ a < 1000000000000000000 ∧ Dec.val (s.data.toList.take k) = a) (fun _ i => s.size - (intOf i).toNat)
  case atStart => exact ⟨0, 0, Nat.zero_le _, rfl, rfl, by omega, rfl⟩
  case round =>
    obtain ⟨k, a, hk, rfl, rfl, ha, hv⟩ := hrel
    have HV := Lib.hid hv; clear hv
    by_cases hlt : k < s.size
    · have hdk : 48 ≤ (s[k].toNat : Int) ∧ (s[k].toNat : Int) ≤ 57 := by
        have := List.all_eq_true.1 HA.out s[k] (mem_of_lt s k hlt)
        have := Dec.isDig_iff.1 this
        omega
      obtain ⟨hd1, hd2⟩ := hdk
      have HS : Hid (Dec.val (s.data.toList.take (k + 1)) = 10 * Dec.val (s.data.toList.take k) + Dec.dval s[k]) := Lib.hid (by rw [take_snoc s k hlt, Dec.val_snoc])
      have hb : 10 * a + (s[k].toNat - 48) < 1000000000000000000 := by
        have h1 : (s.data.toList.take (k + 1)).all Dec.isDig = true := List.all_eq_true.2 fun x hx => List.all_eq_true.1 HA.out x (List.mem_of_mem_take hx)
        have h2 := Dec.val_lt _ h1
        have h3 : (s.data.toList.take (k + 1)).length ≤ 18 := by simp; omega
        have h4 := Nat.pow_le_pow_right (n := 10) (by decide) h3
        rw [HS.out, HV.out] at h2
        unfold Dec.dval at h2
        omega
      go_wp2
      go_round
      case rel => exact ⟨k + 1, 10 * a + (s[k].toNat - 48), by omega, by go_num, by go_num, hb, by rw [HS.out, HV.out]; rfl⟩
      case measure => simp [intOf]; omega
    · have HE := Lib.hid (take_end s k hlt)
      go_wp2
      go_ret
      refine ⟨ret_int ?_, rfl⟩
      have := HV.out
      rw [HE.out] at this
      omega

def strLen : Value → Nat
  | .string s => s.size
  | _ => 0

set_option maxHeartbeats 400000 in
theorem rdigits_any (n : Int) (h0 : 0 ≤ n) (h1 : n ≤ 18446744073709551615) (w : World) :
    Calls Tryz.prog 193 #[.int .u64 n] w fun e w' => e = .returned (.string ⟨(Dec.digits n.toNat).toArray⟩) ∧ Below w.heap.size w w' := by
  obtain ⟨N, rfl⟩ := Int.eq_ofNat_of_zero_le h0
  simp only [Int.toNat_natCast]
  have HL : Hid ((Dec.digits N).length ≤ 20) := Lib.hid (Dec.digits_length_le N 19 (by omega))
  go_enter Tryz.func193, Tryz.ntmps193
  go_wp2
  go_loopw [0, 3] (fun n5 s wr => ∃ (N' : Nat) (acc : List UInt8), n5 = .int .u64 N' ∧ N' ≤ 18446744073709551615 ∧ s = .string ⟨acc.toArray⟩ ∧ Below w.heap.size w wr ∧ Dec.Dst N N' acc)
    (fun n5 s wr => (intOf n5).toNat + (1 - strLen s))
  case atStart => exact ⟨N, [], rfl, by omega, rfl, Below.refl _ _, .inl ⟨rfl, rfl⟩⟩
  case round =>
    obtain ⟨N', acc, rfl, hN, rfl, hb, hcase⟩ := hrel
    have hlen : acc.length ≤ 20 := by
      have := HL.out
      rcases hcase with ⟨rfl, rfl⟩ | ⟨_, _, ht⟩ | ⟨_, _, ht⟩
      · simp
      · rw [ht] at this; simp at this; omega
      · rw [ht] at this; exact this
    have hcv := conv_one (P := Tryz.prog) 47 9 5 Tryz.underlying47 Tryz.underlying5 Tryz.underlying9 (48 + (N' : Int) % 10) (Dec.dig N') (by rw [Dec.dig_toNat]; omega)
    by_cases hp : 0 < N'
    · have HT : Hid (Dec.Dst N (N' / 10) (Dec.dig N' :: acc)) := Lib.hid (by
        rcases hcase with ⟨rfl, rfl⟩ | ⟨_, _, ht⟩ | ⟨_, h0, _⟩
        · exact Dec.digits_step (by simp)
        · exact Dec.digits_step ht
        · omega)
      clear hcase
      go_wp2
      go_roundw
      case rel => exact ⟨N' / 10, Dec.dig N' :: acc, by go_num, by omega, cons_string _ _, hb.alloc hb.size _, HT.out⟩
      case measure => simp [intOf, strLen]; omega
    · obtain rfl : N' = 0 := by omega
      rcases hcase with ⟨rfl, rfl⟩ | ⟨_, h0, _⟩ | ⟨hne, _, ht⟩
      · have HT : Hid (Dec.Dst 0 (0 / 10) (Dec.dig 0 :: [])) := Lib.hid (Dec.digits_step (by simp))
        clear hcv
        have hcv := conv_one (P := Tryz.prog) 47 9 5 Tryz.underlying47 Tryz.underlying5 Tryz.underlying9 48 (Dec.dig 0) (by rw [Dec.dig_toNat]; rfl)
        go_wp2
        go_roundw
        case rel => exact ⟨0, Dec.dig 0 :: [], rfl, by omega, cons_string _ _, hb.alloc hb.size _, HT.out⟩
        case measure => simp [intOf, strLen, ByteArray.size]
      · omega
      · have HT := Lib.hid ht; clear ht
        go_wp2
        go_ret
        exact ⟨ret_string (by rw [HT.out]), hb⟩
end Go.Proofs.YtbmphlpmipkpcaaGreat
end
