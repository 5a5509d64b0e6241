/- Contracts of package posting: of, look, fits, out. -/
import Derived.Test.YtajpggnmhkpbkaaRfw5

set_option linter.unusedSimpArgs false
set_option linter.unusedVariables false
namespace Go.Proofs.Ytajpggnmhkpbkaa
open Go.RowKit

set_option maxHeartbeats 400000 in
theorem of_post_any (d t s k a0 a1 a2 a3 a4 a5 : Int) (w : World) :
    Calls Try.prog 79 #[.agg #[.int .i64 d, .int .u64 t, .int .i64 s, .int .i64 k, .int .i64 a0, .int .i64 a1, .int .i64 a2, .int .i64 a3, .int .i64 a4, .int .i64 a5]] w
      fun e w' => e = .returned (.agg #[.int .i64 a0, .int .i64 a1, .int .i64 a2, .int .i64 a3, .int .i64 a4, .int .i64 a5]) ∧ Below w.heap.size w w' := by
  go_enter Try.func79, Try.ntmps79
  go_wp2
  refine bodyPost_ret (v := .agg #[.int .i64 a0, .int .i64 a1, .int .i64 a2, .int .i64 a3, .int .i64 a4, .int .i64 a5]) (by simp [results, Try.results79, go_sem]) rfl ⟨rfl, ?_⟩
  exact ((Below.refl _ _).alloc (Nat.le_refl _) _).alloc (by simp) _

set_option maxHeartbeats 400000 in
theorem fits_any (c : UInt8) (n : Int) (w : World) :
    Calls Try.prog 82 #[.int .i32 c.toNat, .int .i64 n] w fun e w' => e = .returned (.bool (Post.fit c n)) ∧ w = w' := by
  go_enter Try.func82, Try.ntmps82
  go_wp2
  all_goals
    go_ret
    refine ⟨ret_bool ?_, rfl⟩
    first
      | (rw [Post.fit_plus n (beq_iff_eq.1 ‹_›)])
      | (rw [Post.fit_minus n (beq_iff_eq.1 ‹_›)])
      | (rw [Post.fit_zero n (beq_iff_eq.1 ‹_›)]; rfl)
      | (rw [Post.fit_star n (by simp_all) (by simp_all) (by simp_all)])

set_option maxHeartbeats 400000 in
theorem outFn_any (n bd : Int) (b : Nat) (w : World) (hb : w.cell? ⟨b, 0, none⟩ = some (.int .i64 bd)) (hbd : 0 ≤ bd) (hbd' : bd ≤ 4611686018427387904) :
    Calls Try.prog 92 #[.int .i64 n, .pointer (some ⟨b, 0, none⟩)] w fun e w' => e = .returned (.bool (Post.outB bd n)) ∧ w = w' := by
  go_enter Try.func92, Try.ntmps92
  go_wp2
  all_goals
    go_ret
    refine ⟨ret_bool ?_, rfl⟩
    unfold Post.outB
    first
      | rfl
      | (rw [Bool.eq_iff_iff]; simp; done)
      | (rw [Bool.eq_iff_iff]; simp; omega)

theorem ret_strings {a b c d : ByteArray} (h : a = b) (h' : c = d) : Ending.returned (.tuple #[.string a, .string c]) = .returned (.tuple #[.string b, .string d]) := by rw [h, h']

def Str (l : List UInt8) : ByteArray := ⟨l.toArray⟩
theorem Str_toList (l : List UInt8) : (Str l).data.toList = l := by simp [Str]
theorem Str_size (l : List UInt8) : (Str l).size = l.length := by simp [Str, ByteArray.size]

set_option maxHeartbeats 400000 in
theorem look_any (k : Int) (w : World) :
    Calls Try.prog 80 #[.int .i64 k] w fun e w' => e = .returned (.tuple #[.string (Str (Post.name k)), .string (Str (Post.signs k))]) ∧ w = w' := by
  by_cases h1 : k = 1
  · subst h1
    go_enter Try.func80, Try.ntmps80
    go_wp2
    go_ret2
    exact ⟨rfl, rfl⟩
  by_cases h2 : k = 2
  · subst h2
    go_enter Try.func80, Try.ntmps80
    go_wp2
    go_ret2
    exact ⟨rfl, rfl⟩
  by_cases h3 : k = 3
  · subst h3
    go_enter Try.func80, Try.ntmps80
    go_wp2
    go_ret2
    exact ⟨rfl, rfl⟩
  by_cases h4 : k = 4
  · subst h4
    go_enter Try.func80, Try.ntmps80
    go_wp2
    go_ret2
    exact ⟨rfl, rfl⟩
  by_cases h5 : k = 5
  · subst h5
    go_enter Try.func80, Try.ntmps80
    go_wp2
    go_ret2
    exact ⟨rfl, rfl⟩
  have e1 : Post.signs k = [] := by unfold Post.signs; rw [if_neg h1, if_neg h2, if_neg h3, if_neg h4, if_neg h5]
  have e2 : Post.name k = [] := by unfold Post.name; rw [if_neg h1, if_neg h2, if_neg h3, if_neg h4, if_neg h5]
  rw [e1, e2]
  have q1 : (k == 1) = false := by simpa using h1
  have q2 : (k == 2) = false := by simpa using h2
  have q3 : (k == 3) = false := by simpa using h3
  have q4 : (k == 4) = false := by simpa using h4
  have q5 : (k == 5) = false := by simpa using h5
  clear e1 e2 h1 h2 h3 h4 h5
  go_enter Try.func80, Try.ntmps80
  go_wp2
  go_ret2
  exact ⟨rfl, rfl⟩

set_option maxHeartbeats 400000 in
theorem indexOut_any (zs : List Int) (n c b off bb : Nat) (bd : Int) (hn : zs.length = n) (hc : n ≤ c) (hcap : c ≤ maxLen) (w : World) (hz : ∀ i, i < n → w.cell? ⟨b, off + i, none⟩ = some (.int .i64 (zs.getD i 0)))
    (hb : w.cell? ⟨bb, 0, none⟩ = some (.int .i64 bd)) (hbd : 0 ≤ bd) (hbd' : bd ≤ 4611686018427387904) :
    Calls Try.prog 96 #[.slice (some ⟨b, off, none⟩) n c, .func (.func 92) #[] #[.pointer (some ⟨bb, 0, none⟩)]] w
      fun e w' => e = .returned (.int .i64 (Post.idxOut bd zs 0)) ∧ w = w' := by
  unfold maxLen at hcap
  have HZ := Lib.hid hz; clear hz
  have HN := Lib.hid hn; clear hn
  go_enter Try.func96, Try.ntmps96
  go_wp2
  go_loop [8] (fun i => ∃ k : Nat, k ≤ n ∧ i = .int .i64 k ∧ Post.idxOut bd zs 0 = Post.idxOut bd (zs.drop k) k) (fun i => n - (intOf i).toNat)
  case atStart => exact ⟨0, Nat.zero_le _, rfl, rfl⟩
  case round =>
    obtain ⟨k, hk, rfl, hx⟩ := hrel
    have HX := Lib.hid hx; clear hx
    by_cases hlt : k < n
    · have hcell := HZ.out k hlt
      have HD : Hid (zs.drop k = zs.getD k 0 :: zs.drop (k + 1)) := Lib.hid (by
        rw [List.drop_eq_getElem_cons (by have := HN.out; omega)]
        simp [List.getD_eq_getElem?_getD, List.getElem?_eq_getElem (show k < zs.length by have := HN.out; omega)])
      generalize zs.getD k 0 = z at *
      cases ho : Post.outB bd z
      · have HO := Lib.hid ho
        go_wp2_with (first | (go_at_call 92; refine (outFn_any _ bd bb _ (by assumption) (by omega) (by omega)).mono ?_; rintro e w' ⟨rfl, rfl⟩))
        go_round
        case rel => exact ⟨k + 1, by omega, by go_num, by rw [HX.out, HD.out, Post.idxOut_miss HO.out]; rfl⟩
        case measure => simp [intOf]; omega
      · have HO := Lib.hid ho
        go_wp2_with (first | (go_at_call 92; refine (outFn_any _ bd bb _ (by assumption) (by omega) (by omega)).mono ?_; rintro e w' ⟨rfl, rfl⟩))
        go_ret
        exact ⟨ret_int (by rw [HX.out, HD.out, Post.idxOut_hit HO.out]), rfl⟩
    · obtain rfl : k = n := by omega
      go_wp2
      go_ret
      exact ⟨ret_int (by rw [HX.out, List.drop_of_length_le (by have := HN.out; omega)]; rfl), rfl⟩

set_option maxHeartbeats 400000 in
theorem containsOut_any (zs : List Int) (n c b off bb : Nat) (bd : Int) (hn : zs.length = n) (hc : n ≤ c) (hcap : c ≤ maxLen) (w : World) (hz : ∀ i, i < n → w.cell? ⟨b, off + i, none⟩ = some (.int .i64 (zs.getD i 0)))
    (hb : w.cell? ⟨bb, 0, none⟩ = some (.int .i64 bd)) (hbd : 0 ≤ bd) (hbd' : bd ≤ 4611686018427387904) :
    Calls Try.prog 91 #[.slice (some ⟨b, off, none⟩) n c, .func (.func 92) #[] #[.pointer (some ⟨bb, 0, none⟩)]] w
      fun e w' => e = .returned (.bool (zs.any (Post.outB bd))) ∧ w = w' := by
  have HI := Lib.hid (indexOut_any zs n c b off bb bd hn hc hcap w hz hb hbd hbd')
  have HA := Lib.hid (Post.idxOut_any bd zs 0 (Int.le_refl 0))
  clear hz hb hn
  go_enter Try.func91, Try.ntmps91
  go_wp2_with fail
  refine HI.out.mono ?_
  rintro e w' ⟨rfl, rfl⟩
  go_wp2
  go_ret
  exact ⟨ret_bool HA.out, rfl⟩

set_option maxHeartbeats 400000 in
theorem out_any (am : List Int) (bd : Int) (hn : am.length = 6) (hbd : 0 ≤ bd) (hbd' : bd ≤ 4611686018427387904) (w : World) :
    Calls Try.prog 81 #[.agg (Post.amRow am), .int .i64 bd] w fun e w' => e = .returned (.bool (am.any (Post.outB bd))) ∧ Below w.heap.size w w' := by
  have hs : (Post.amRow am).size = 6 := by rw [Post.amRow_size, hn]
  have HN := Lib.hid hn; clear hn
  go_enter Try.func81, Try.ntmps81
  go_wp2_with fail
  refine (containsOut_any am 6 6 _ 0 _ bd HN.out (Nat.le_refl _) (by decide) _ ?_ ?_ hbd hbd').mono ?_
  · intro i hi
    have h := Post.amRow_at (am := am) (j := i) (by have := HN.out; omega)
    have h1 : (w.alloc (Obj.cells (Post.amRow am) 109)).cell? ⟨w.heap.size, 0 + i, none⟩ = some (.int .i64 (am.getD i 0)) := by
      rw [Nat.zero_add]
      exact (World.cell?_alloc_mark w (Post.amRow am) 109 (0, 0) i).trans h
    rw [World.cell?_alloc_lt _ _ _ (by simp), h1]
  · have h := World.cell?_alloc_mark (w.alloc (Obj.cells (Post.amRow am) 109)) #[.int .i64 bd] 2 (0, 0) 0
    simp at h ⊢
  · rintro e w' ⟨rfl, rfl⟩
    go_wp2
    go_ret
    exact ⟨rfl, ((Below.refl _ _).alloc (Nat.le_refl _) _).alloc (by simp) _⟩

set_option maxHeartbeats 1000000 in
theorem may_any (d t s k a0 a1 a2 a3 a4 a5 : Int) (ht0 : 0 ≤ t) (ht1 : t ≤ 18446744073709551615) (w : World) :
    Calls Try.prog 62 #[.agg #[.int .i64 d, .int .u64 t, .int .i64 s, .int .i64 k, .int .i64 a0, .int .i64 a1, .int .i64 a2, .int .i64 a3, .int .i64 a4, .int .i64 a5]] w
      fun e w' => e = .returned (.bool (Post.may d t s k [a0, a1, a2, a3, a4, a5])) ∧ Below w.heap.size w w' := by
  obtain ⟨am, ham⟩ : ∃ am, am = [a0, a1, a2, a3, a4, a5] := ⟨_, rfl⟩
  have hlen : am.length = 6 := by rw [ham]; rfl
  have HAM := Lib.hid ham
  rw [← ham]; clear ham
  have HS := Lib.hid (Str_toList (Post.signs k))
  go_enter Try.func62, Try.ntmps62
  go_wp2_with fail
  refine (of_post_any d t s k a0 a1 a2 a3 a4 a5 _).mono ?_
  rintro e w1 ⟨rfl, hb1⟩
  obtain ⟨hc1, _⟩ := bcell hb1
  have hz1 : w.heap.size < w1.heap.size := by have := hb1.size; simp at this; omega
  go_wp2_with fail
  refine (look_any k _).mono ?_
  rintro e w' ⟨rfl, rfl⟩
  by_cases hk : 1 ≤ k ∧ k ≤ 5
  · obtain ⟨k1, k5⟩ := hk
    have hsz : (Str (Post.signs k)).size = 6 := by rw [Str_size, Post.signs_len k1 k5]
    have hnl : ¬ (Str (Post.signs k)).toList = [] := by
      rw [ByteArray.toList_eq]
      intro h
      have h1 := congrArg List.length h
      rw [HS.out, Post.signs_len k1 k5] at h1
      cases h1
    have hnl' : (Str (Post.signs k)).toList.isEmpty = false := by
      cases h : (Str (Post.signs k)).toList with
      | nil => exact absurd h hnl
      | cons a l => rfl
    have hasc : ∀ c ∈ (Str (Post.signs k)).data.toList, c.toNat < 128 := by rw [HS.out]; exact Post.signs_ascii k
    have HSG : Hid (Post.signs k = (Str (Post.signs k)).data.toList) := Lib.hid HS.out.symm
    clear HS
    have HAS := Lib.hid hasc; clear hasc
    have HM : Hid (Post.may d t s k am = (Post.cols k am && decide (0 ≤ d) && decide (d ≤ 1000000) && decide (1 ≤ s) && decide (s ≤ 200) && decide (Num.check t = 0))) := Lib.hid (by
      unfold Post.may; simp [k1, k5])
    have HC : Hid (Post.cols k am = (!(am.any (Post.outB 1125899906842624)) && Post.fitAll (Post.signs k) am && decide (Post.sum am = 0) && !(decide (k = 5) && decide (am.getD 0 0 ≠ 0) && decide (am.getD 5 0 ≠ 0)))) := Lib.hid rfl
    generalize Str (Post.signs k) = S at *
    go_wp2_with fail
    refine (out_any [a0, a1, a2, a3, a4, a5] 1125899906842624 rfl (by omega) (by omega) _).mono ?_
    rintro e w2 ⟨rfl, hb2⟩
    obtain ⟨hc2, _⟩ := bcell hb2
    have hz2 : w1.heap.size < w2.heap.size := by have := hb2.size; simp at this; omega
    have hbw : Below w.heap.size w w2 := ((((Below.refl w.heap.size w).alloc (Nat.le_refl _) _).trans (hb1.mono (by simp))).alloc (by omega) _).trans (hb2.mono (by simp; omega))
    have HB := Lib.hid hbw; clear hbw
    have hcell : ∀ i, i < 6 → w2.cell? ⟨w1.heap.size, i, none⟩ = some (.int .i64 (am.getD i 0)) := by
      intro i hi
      rw [hc2 w1.heap.size i (by simp)]
      rw [HAM.out]
      have h := World.cell?_alloc_mark w1 (Post.amRow [a0, a1, a2, a3, a4, a5]) 109 (0, 0) i
      exact h.trans (Post.amRow_at (am := [a0, a1, a2, a3, a4, a5]) (by simpa using hi))
    have HCL := Lib.hid hcell; clear hcell
    rw [← HAM.out]
    cases hout : am.any (Post.outB 1125899906842624)
    · have HIN : Hid (∀ i, i < 6 → -1125899906842624 ≤ am.getD i 0 ∧ am.getD i 0 ≤ 1125899906842624) := Lib.hid (fun i hi => by
        have := Post.any_in hout (z := am.getD i 0) (by rw [List.getD_eq_getElem?_getD, List.getElem?_eq_getElem (by omega)]; exact List.getElem_mem _)
        omega)
      have HOUT := Lib.hid hout; clear hout
      have HLEN := Lib.hid hlen; clear hlen
      go_wp2_with fail
      go_loopw [6] (fun sm wr => ∃ (j : Nat) (x : Int), j ≤ 6 ∧ wr = w2.iter S j ∧ sm = .int .i64 x ∧ -((j : Int) * 1125899906842624) ≤ x ∧ x ≤ (j : Int) * 1125899906842624 ∧
          (Post.sum am = x + Post.sum (am.drop j) ∧ Post.fitAll S.data.toList am = Post.fitAll (S.data.toList.drop j) (am.drop j))) (fun _ wr => S.size - wr.iterPos w2.heap.size)
      case atStart => exact ⟨0, 0, by omega, rfl, rfl, by omega, by omega, by simp, rfl⟩
      case round =>
        obtain ⟨j, x, hj, rfl, rfl, hx1, hx2, hrest⟩ := hrel
        have HR := Lib.hid hrest; clear hrest
        by_cases hlt : j < 6
        · have hltS : j < S.size := by omega
          have hnx : ∀ ty, (Instr.next (.pointer (some ⟨w2.heap.size, 0, none⟩)) true ty).run Try.prog (w2.iter S j) = _ := fun ty => run_next_ascii w2 S j ty hltS (HAS.out _ (mem_of_lt S j hltS))
          have hcj : (w2.iter S (j + 1)).cell? ⟨w1.heap.size, j, none⟩ = some (.int .i64 (am.getD j 0)) := (World.cell?_alloc_lt w2 _ ⟨w1.heap.size, j, none⟩ hz2).trans (HCL.out j hlt)
          obtain ⟨hz3, hz4⟩ := HIN.out j hlt
          have hdr : am.drop j = am.getD j 0 :: am.drop (j + 1) := by
            rw [List.drop_eq_getElem_cons (by have := HLEN.out; omega)]
            simp [List.getD_eq_getElem?_getD, List.getElem?_eq_getElem (show j < am.length by have := HLEN.out; omega)]
          have HDR := Lib.hid hdr; clear hdr
          have HDS := Lib.hid (drop_step S j hltS)
          generalize am.getD j 0 = z at *
          cases hf : Post.fit S[j] z
          · have HF := Lib.hid hf
            go_wp2_with (first | (go_at_call 82; refine (fits_any _ _ _).mono ?_; rintro e w' ⟨rfl, rfl⟩))
            go_ret
            refine ⟨ret_bool ?_, HB.out.trans ((iter_below _ _ _).mono HB.out.size)⟩
            rw [HM.out, HC.out, HSG.out, HR.out.2, HDS.out, HDR.out, Post.fitAll_step HF.out]
            simp
          · have HF := Lib.hid hf
            go_wp2_with (first | (go_at_call 82; refine (fits_any _ _ _).mono ?_; rintro e w' ⟨rfl, rfl⟩))
            go_roundw
            case rel =>
              refine ⟨j + 1, x + z, by omega, rfl, rfl, by omega, by omega, ?_, ?_⟩
              · rw [HR.out.1, HDR.out, Post.sum_cons]; omega
              · rw [HR.out.2, HDS.out, HDR.out, Post.fitAll_step HF.out]; rfl
            case measure => simp; omega
        · obtain rfl : j = 6 := by omega
          have hnx : ∀ ty, (Instr.next (.pointer (some ⟨w2.heap.size, 0, none⟩)) true ty).run Try.prog (w2.iter S 6) = _ := fun ty => run_next_end w2 S 6 ty (by omega)
          have hsum : Post.sum am = x := by rw [HR.out.1, List.drop_of_length_le (by have := HLEN.out; omega)]; simp [Post.sum]
          have hfa : Post.fitAll S.data.toList am = true := by
            rw [HR.out.2, List.drop_of_length_le (by simp; omega)]; rfl
          have hfin : Post.may d t s k am = (decide (x = 0) && !(decide (k = 5) && decide (a0 ≠ 0) && decide (a5 ≠ 0)) && decide (0 ≤ d) && decide (d ≤ 1000000) && decide (1 ≤ s) && decide (s ≤ 200) && decide (Num.check t = 0)) := by
            rw [HM.out, HC.out, HOUT.out, HSG.out, hfa, hsum, HAM.out]; rfl
          have HFIN := Lib.hid hfin
          obtain ⟨q, hq⟩ : ∃ q, (k == 5) = q := ⟨_, rfl⟩
          rw [show decide (k = 5) = q from hq ▸ rfl] at hfin
          clear HFIN
          have HFIN := Lib.hid hfin
          have hp : ∀ o, (w2.iter S 6).cell? ⟨w.heap.size, o, none⟩ = (#[Value.int .i64 d, .int .u64 t, .int .i64 s, .int .i64 k, .int .i64 a0, .int .i64 a1, .int .i64 a2, .int .i64 a3, .int .i64 a4, .int .i64 a5] : Array Value)[o]? := by
            intro o
            have h1 : (w2.iter S 6).cell? ⟨w.heap.size, o, none⟩ = w2.cell? ⟨w.heap.size, o, none⟩ := World.cell?_alloc_lt w2 _ ⟨w.heap.size, o, none⟩ (by show w.heap.size < w2.heap.size; omega)
            rw [h1, hc2 w.heap.size o (by simp; omega)]
            rw [World.cell?_alloc_lt w1 _ ⟨w.heap.size, o, none⟩ hz1, hc1 w.heap.size o (by simp)]
            exact World.cell?_alloc_mark w _ _ (0, 0) o
          have hbf : Below w.heap.size w (w2.iter S 6) := HB.out.trans ((iter_below _ _ _).mono HB.out.size)
          have HBF := Lib.hid hbf
          clear hsum hfa hfin hbf hc1 hc2 HM HC HAM HR HAS HSG hnl hnl' k1 k5
          cases q
          all_goals skip
          all_goals
            go_wp2_with (first | (go_at_call 30; refine (check_any _ ht0 ht1 _).mono ?_; rintro e w' ⟨rfl, rfl⟩))
          all_goals
            go_ret
            refine ⟨ret_bool ?_, HBF.out⟩
            rw [HFIN.out, Bool.eq_iff_iff]
            simp_all
            try omega
    · go_wp2
      go_ret
      exact ⟨ret_bool (by rw [HM.out, HC.out, hout]; rfl), HB.out⟩
  · have hs : Post.signs k = [] := Post.signs_none (by omega)
    have hmf : Post.may d t s k am = false := by
      unfold Post.may
      by_cases k1 : 1 ≤ k
      · have : ¬ k ≤ 5 := by omega
        simp [this]
      · simp [k1]
    have HMF := Lib.hid hmf; clear hmf
    have hst : Str (Post.signs k) = ⟨#[]⟩ := by rw [hs]; rfl
    rw [hst]
    clear hs hst HS hk
    go_wp2
    go_ret
    exact ⟨ret_bool HMF.out.symm, (((Below.refl _ _).alloc (Nat.le_refl _) _).trans (hb1.mono (by simp))).alloc (by omega) _⟩
end Go.Proofs.Ytajpggnmhkpbkaa
