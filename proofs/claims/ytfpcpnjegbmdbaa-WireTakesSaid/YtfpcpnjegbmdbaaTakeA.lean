/- Contract of the law's take: what is taken off a reader, by its kind. -/
import Derived.Test.YtfpcpnjegbmdbaaRefD
import Derived.Test.YtfpcpnjegbmdbaaPuts
set_option linter.unusedVariables false
set_option linter.unusedSimpArgs false
namespace Go.Proofs.Ytfpcpnjegbmdbaa
open Go.RowKit

/-- what a reader tells of a kind, and what it leaves -/
def dN (st : Option (List UInt8)) (k s : Int) : Nat := match st with | none => 0 | some l => takeN l k s
def dX (st : Option (List UInt8)) (k s : Int) : List UInt8 := match st with | none => [] | some l => takeX l k s
def dS (st : Option (List UInt8)) (k s : Int) : Option (List UInt8) := st.bind fun l => (tTake l k s).map fun p => p.2.2
theorem rNum_none (z : Int) : rNumV none z = 0 ∧ rNumS none z = none := by
  unfold rNumV rNumS
  constructor
  · split <;> rfl
  · split <;> rfl
theorem numV_none {l : List UInt8} {z : Int} (h : tNum l z = none) : rNumV (some l) z = 0 ∧ rNumS (some l) z = none := by
  rw [(rNum_t l z).1, (rNum_t l z).2]
  unfold numV
  rw [h]; exact ⟨rfl, rfl⟩
theorem numV_some {l r : List UInt8} {n : Nat} {z : Int} (h : tNum l z = some (n, r)) : rNumV (some l) z = n ∧ rNumS (some l) z = some r := by
  rw [(rNum_t l z).1, (rNum_t l z).2]
  unfold numV
  rw [h]; exact ⟨rfl, rfl⟩
theorem d_num (st : Option (List UInt8)) (k s z : Int) (hk : k = 1 ∨ k = 2 ∨ k = 7) (hz : tSize k s = z) : dN st k s = rNumV st z ∧ dX st k s = [] ∧ dS st k s = rNumS st z := by
  cases st with
  | none => exact ⟨(rNum_none z).1.symm, rfl, (rNum_none z).2.symm⟩
  | some l =>
    have ht : tTake l k s = (tNum l z).bind fun q => some (q.1, [], q.2) := by
      unfold tTake
      rw [if_neg (by omega), hz]
      congr 1
      funext q
      rw [if_neg (by omega), if_neg (by omega)]
    show takeN l k s = _ ∧ takeX l k s = _ ∧ (tTake l k s).map _ = _
    unfold takeN takeX
    rw [ht]
    cases h : tNum l z with
    | none => rw [(numV_none h).1, (numV_none h).2]; exact ⟨rfl, rfl, rfl⟩
    | some q => rw [(numV_some h).1, (numV_some h).2]; exact ⟨rfl, rfl, rfl⟩
theorem d_flag (st : Option (List UInt8)) (s : Int) : (dN st 3 s : Int) = (if rNumV st 1 = 1 then 1 else 0) ∧ dX st 3 s = [] ∧ dS st 3 s = if rNumV st 1 > 1 then none else rNumS st 1 := by
  cases st with
  | none => rw [(rNum_none 1).1, (rNum_none 1).2]; exact ⟨rfl, rfl, rfl⟩
  | some l =>
    show ((takeN l 3 s : Nat) : Int) = _ ∧ takeX l 3 s = _ ∧ (tTake l 3 s).map _ = _
    have ht : tTake l 3 s = (tNum l 1).bind fun q => if q.1 > 1 then none else some (q.1, [], q.2) := by
      unfold tTake
      rw [if_neg (by decide), show tSize 3 s = 1 from by unfold tSize; simp]
      congr 1
      funext q
      by_cases h : q.1 > 1 <;> simp [h]
    unfold takeN takeX
    rw [ht]
    cases h : tNum l 1 with
    | none => rw [(numV_none h).1, (numV_none h).2]; exact ⟨rfl, rfl, rfl⟩
    | some q =>
      rw [(numV_some h).1, (numV_some h).2]
      by_cases h1 : q.1 > 1
      · simp [h1]; omega
      · simp [h1]; omega
theorem d_bytes (st : Option (List UInt8)) (s : Int) : dN st 4 s = 0 ∧ dX st 4 s = rBy st s ∧ dS st 4 s = rRest st s := by
  cases st with
  | none => exact ⟨rfl, rfl, rfl⟩
  | some l =>
    show takeN l 4 s = _ ∧ takeX l 4 s = _ ∧ (tTake l 4 s).map _ = _
    have ht : tTake l 4 s = (tCut l s).map fun p => (0, p.1, p.2) := if_pos rfl
    unfold takeN takeX rBy rTake rRest
    rw [ht]
    unfold tCut
    by_cases h : 0 ≤ s ∧ s ≤ l.length
    · simp [h]
    · simp [h]
theorem d_blob (st : Option (List UInt8)) (k s : Int) (hk : k = 5 ∨ k = 6) : dN st k s = 0 ∧ dX st k s = rBlobV st ∧ dS st k s = rBlobS st := by
  unfold rBlobV rBlobS
  cases st with
  | none => rw [(rNum_none 4).1, (rNum_none 4).2]; exact ⟨rfl, rfl, rfl⟩
  | some l =>
    show takeN l k s = _ ∧ takeX l k s = _ ∧ (tTake l k s).map _ = _
    have ht : tTake l k s = (tNum l 4).bind fun q => if q.1 > 16777216 then none else (tCut q.2 (q.1 : Int)).map fun p => (0, p.1, p.2) := by
      unfold tTake
      rw [if_neg (by omega), show tSize k s = 4 from by unfold tSize; rw [if_neg (by omega), if_neg (by omega), if_neg (by omega), if_pos hk]]
      congr 1
      funext q
      by_cases h : q.1 > 16777216
      · rw [if_pos (.inr ⟨hk, h⟩), if_pos h]
      · rw [if_neg (by omega), if_neg h, if_pos hk]
    unfold takeN takeX
    rw [ht]
    cases h : tNum l 4 with
    | none => rw [(numV_none h).1, (numV_none h).2]; exact ⟨rfl, rfl, rfl⟩
    | some q =>
      obtain ⟨n, r⟩ := q
      rw [(numV_some h).1, (numV_some h).2]
      by_cases h1 : n > 16777216
      · simp [h1]
      · unfold rBy rTake rRest tCut
        by_cases h2 : 0 ≤ (n : Int) ∧ (n : Int) ≤ r.length
        · simp only [Option.bind_some, if_neg h1, if_pos h2]; exact ⟨rfl, rfl, rfl⟩
        · simp only [Option.bind_some, if_neg h1, if_neg h2]; exact ⟨rfl, rfl, rfl⟩

theorem RStep.pre {w w1 w2 : World} {base br : Nat} {st : Option (List UInt8)} (hb : Below w.heap.size w w1) (hbase : base ≤ w.heap.size) (h : RStep w1 w2 base br st) : RStep w w2 base br st :=
  ⟨h.1, (hb.mono hbase).trans h.2.1, (Kept.of_below hb).trans h.2.2⟩

theorem RStep.post {w w1 w2 : World} {base br : Nat} {st : Option (List UInt8)} (h : RStep w w1 base br st) (hb : Below w1.heap.size w1 w2) : RStep w w2 base br st :=
  ⟨h.1.below hb, h.2.1.trans (hb.mono (by have := h.1.lt; omega)), h.2.2.trans (Kept.of_below hb)⟩
theorem rBlobV_len (st : Option (List UInt8)) : (rBlobV st).length ≤ 16777216 := by
  unfold rBlobV
  split
  · exact Nat.zero_le _
  · have := rBy_le (rNumS st 4) (rNumV st 4)
    omega

set_option maxRecDepth 4000 in
set_option maxHeartbeats 1000000 in
theorem take_any (base br : Nat) (st : Option (List UInt8)) (x : PutR) (hx : x.wf) (u0 : Value) (hu0 : ∃ p n c, x.v = .slice p n c) (w : World) (h : IsR w base br st) :
    Calls Try.prog 33 #[.pointer (some ⟨br, 0, none⟩), .agg #[.int .i64 x.kind, .int .u64 (x.n : Int), .int .i64 x.size, x.v]] w
      fun e w' => ∃ u, e = .returned (.tuple #[.int .u64 (dN st (kindOf x.kind) x.size : Int), u]) ∧ BS w' u (dX st (kindOf x.kind) x.size) ∧ RStep w w' base br (dS st (kindOf x.kind) x.size) := by
  obtain ⟨kd, N, sz, v, b⟩ := x
  obtain ⟨-, hN, hsz0, hsz1⟩ := hx
  obtain ⟨p, n, cap, hv⟩ := hu0
  simp only at hv hsz0 hsz1 ⊢
  subst hv
  have hlt := h.lt
  have HK := Lib.hid (kind_any kd)
  have hkb := kindOf_bd kd
  have HA : Hid (∀ o, Below w.heap.size w (w.alloc o)) := Lib.hid (fun o => (Below.refl _ _).alloc (Nat.le_refl _) o)
  have HI := Lib.hid (fun o => h.below (HA.out o))
  have HPRE : Hid (∀ (o : Obj) (w' : World) (st' : Option (List UInt8)), RStep (w.alloc o) w' base br st' → RStep w w' base br st') := Lib.hid (fun o w' st' hw => RStep.pre (HA.out _) (by omega) hw)
  clear h
  generalize kindOf kd = kk at *
  obtain ⟨k1, k7⟩ := hkb
  rcases (by omega : kk = 1 ∨ kk = 2 ∨ kk = 3 ∨ kk = 4 ∨ kk = 5 ∨ kk = 6 ∨ kk = 7) with rfl | rfl | rfl | rfl | rfl | rfl | rfl
  · have hd := d_num st 1 sz sz (.inl rfl) (by unfold tSize; simp)
    rw [hd.1, hd.2.1, hd.2.2]
    clear hd
    have HRI := Lib.hid (fun W h => rnumber_any base br st sz W h)
    generalize rNumV st sz = V at *
    go_enter Try.func33, Try.ntmps33
    go_wp2_with fail
    refine (HK.out _).mono ?_
    rintro e w1 ⟨rfl, rfl⟩
    go_wp2_with fail
    refine (HRI.out _ (HI.out _)).mono ?_
    rintro e w1 ⟨rfl, hr⟩
    have HF := Lib.hid (HPRE.out _ _ _ hr)
    clear hr
    go_wp2
    go_ret2
    exact ⟨.slice none 0 0, rfl, BS.nil _, HF.out⟩
  · have hd := d_num st 2 sz 8 (.inr (.inl rfl)) (by unfold tSize; simp)
    rw [hd.1, hd.2.1, hd.2.2]
    have hlV := rNumV_lt st 8
    clear hd
    have HRI := Lib.hid (fun W h => rint_any base br st W h)
    generalize rNumV st 8 = V at *
    go_enter Try.func33, Try.ntmps33
    go_wp2_with fail
    refine (HK.out _).mono ?_
    rintro e w1 ⟨rfl, rfl⟩
    go_wp2_with fail
    refine (HRI.out _ (HI.out _)).mono ?_
    rintro e w1 ⟨rfl, hr⟩
    have hz' : IntKind.u64.wrap (wrap64 (V : Int)) = (V : Int) := by rw [IntKind.wrap_u64]; change V < 18446744073709551616 at hlV; unfold wrap64; omega
    have HF := Lib.hid (HPRE.out _ _ _ hr)
    clear hr
    go_wp2
    go_ret2
    exact ⟨.slice none 0 0, rfl, BS.nil _, HF.out⟩
  · have hd := d_flag st sz
    rw [hd.1, hd.2.1, hd.2.2]
    clear hd
    have HRI := Lib.hid (fun W h => rflag_any base br st W h)
    generalize (if rNumV st 1 > 1 then none else rNumS st 1) = st' at *
    generalize rNumV st 1 = V at *
    by_cases hV : V = 1
    · rw [if_pos hV]
      rw [show (V == 1) = true from by simpa using hV] at HRI
      go_enter Try.func33, Try.ntmps33
      go_wp2_with fail
      refine (HK.out _).mono ?_
      rintro e w1 ⟨rfl, rfl⟩
      go_wp2_with fail
      refine (HRI.out _ (HI.out _)).mono ?_
      rintro e w1 ⟨rfl, hr⟩
      have HF := Lib.hid (HPRE.out _ _ _ hr)
      clear hr
      go_wp2
      go_ret2
      exact ⟨.slice none 0 0, rfl, BS.nil _, HF.out⟩
    · rw [if_neg hV]
      rw [show (V == 1) = false from by simpa using hV] at HRI
      go_enter Try.func33, Try.ntmps33
      go_wp2_with fail
      refine (HK.out _).mono ?_
      rintro e w1 ⟨rfl, rfl⟩
      go_wp2_with fail
      refine (HRI.out _ (HI.out _)).mono ?_
      rintro e w1 ⟨rfl, hr⟩
      have HF := Lib.hid (HPRE.out _ _ _ hr)
      clear hr
      go_wp2
      go_ret2
      exact ⟨.slice none 0 0, rfl, BS.nil _, HF.out⟩
  · have hd := d_bytes st sz
    rw [hd.1, hd.2.1, hd.2.2]
    clear hd
    go_enter Try.func33, Try.ntmps33
    go_wp2_with fail
    refine (HK.out _).mono ?_
    rintro e w1 ⟨rfl, rfl⟩
    go_wp2_with fail
    refine (rbytes_any base br st sz ⟨hsz0, hsz1⟩ _ (HI.out _)).mono ?_
    rintro e w1 ⟨u, rfl, hown, hr⟩
    have HO := Lib.hid (BS.of_own hown)
    obtain ⟨q, c, rfl⟩ := own_form hown
    clear hown
    have HF := Lib.hid (HPRE.out _ _ _ hr)
    clear hr
    go_wp2
    go_ret2
    exact ⟨_, rfl, HO.out, HF.out⟩
  · have hd := d_blob st 5 sz (.inl rfl)
    rw [hd.1, hd.2.1, hd.2.2]
    clear hd
    go_enter Try.func33, Try.ntmps33
    go_wp2_with fail
    refine (HK.out _).mono ?_
    rintro e w1 ⟨rfl, rfl⟩
    go_wp2_with fail
    refine (rblob_any base br st _ (HI.out _)).mono ?_
    rintro e w1 ⟨u, rfl, hown, hr⟩
    have HO := Lib.hid (BS.of_own hown)
    obtain ⟨q, c, rfl⟩ := own_form hown
    clear hown
    have HF := Lib.hid (HPRE.out _ _ _ hr)
    clear hr
    go_wp2
    go_ret2
    exact ⟨_, rfl, HO.out, HF.out⟩
  · have hd := d_blob st 6 sz (.inr rfl)
    rw [hd.1, hd.2.1, hd.2.2]
    clear hd
    go_enter Try.func33, Try.ntmps33
    go_wp2_with fail
    refine (HK.out _).mono ?_
    rintro e w1 ⟨rfl, rfl⟩
    go_wp2_with fail
    refine (rtext_any base br st _ (HI.out _)).mono ?_
    rintro e w1 ⟨rfl, hr⟩
    have hsz : (⟨(rBlobV st).toArray⟩ : ByteArray).size ≤ maxLen := by have := rBlobV_len st; show (rBlobV st).toArray.size ≤ _; simp [maxLen]; omega
    obtain ⟨v2, w2, hrun, hbs2, hb2, q2, c2, rfl⟩ := conv_text w1 ⟨(rBlobV st).toArray⟩ hsz base
    have HO : Hid (BS w2 _ (rBlobV st)) := Lib.hid hbs2.1
    have hr2 : RStep w w2 base br (rBlobS st) := (HPRE.out _ _ _ hr).post hb2
    generalize (⟨(rBlobV st).toArray⟩ : ByteArray) = SS at *
    have HF := Lib.hid hr2
    clear hr hr2 hbs2 hb2
    go_wp2
    go_ret2
    exact ⟨_, rfl, HO.out, HF.out⟩
  · have hd := d_num st 7 sz 2 (.inr (.inr rfl)) (by unfold tSize; simp)
    rw [hd.1, hd.2.1, hd.2.2]
    have hlV := rNumV_lt st 2
    have HRI := Lib.hid (fun W h => rcount_any base br st W h)
    clear hd
    generalize rNumV st 2 = V at *
    change V < 65536 at hlV
    have hz' : IntKind.u64.wrap (V : Int) = (V : Int) := by rw [IntKind.wrap_u64]; omega
    go_enter Try.func33, Try.ntmps33
    go_wp2_with fail
    refine (HK.out _).mono ?_
    rintro e w1 ⟨rfl, rfl⟩
    go_wp2_with fail
    refine (HRI.out _ (HI.out _)).mono ?_
    rintro e w1 ⟨rfl, hr⟩
    have HF := Lib.hid (HPRE.out _ _ _ hr)
    clear hr
    go_wp2
    go_ret2
    exact ⟨.slice none 0 0, rfl, BS.nil _, HF.out⟩
end Go.Proofs.Ytfpcpnjegbmdbaa
