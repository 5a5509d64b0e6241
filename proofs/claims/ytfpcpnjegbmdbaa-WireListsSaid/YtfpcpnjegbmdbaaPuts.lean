/- WirePuts returns true for every list of puts, and leaves the memory that was there as it was. -/
import Derived.Test.YtfpcpnjegbmdbaaRefB
import Derived.LaidEqlPtr
set_option linter.unusedVariables false
set_option linter.unusedSimpArgs false
namespace Go.Proofs.Ytfpcpnjegbmdbaa
open Go.RowKit

def stepO (st o : Option (List UInt8)) : Option (List UInt8) := match o with | none => none | some d => st.map (· ++ d)
def putO (x : PutR) : Option (List UInt8) := pPut (kindOf x.kind) x.n x.size x.b
theorem wNum_step (st : Option (List UInt8)) (N : Nat) (s : Int) : Wire.wNum st N s = stepO st (pNum N s) := by
  unfold Wire.wNum pNum
  split <;> rfl
theorem wBlob_step (st : Option (List UInt8)) (b : List UInt8) : Wire.wBlob st b = stepO st (pBlob b) := by
  unfold Wire.wBlob pBlob
  by_cases h : b.length ≤ 16777216
  · rw [if_pos h, if_pos h, show (b.length : Nat) = b.length from rfl]
    have h1 := wNum_step st b.length ((4 : Nat) : Int)
    rw [pNum_blob h] at h1
    show Wire.wBytes (Wire.wNum st b.length ((4 : Nat) : Int)) b = _
    rw [h1]
    cases st <;> simp [stepO, Wire.wBytes]
  · rw [if_neg h, if_neg h]; rfl
theorem u64_w64 (N : Nat) (h : N < 18446744073709551616) : u64 (wrap64 (N : Int)) = N := by
  unfold u64 wrap64; omega

set_option maxRecDepth 4000 in
set_option maxHeartbeats 1000000 in
theorem put_any (base bw k : Nat) (st : Option (List UInt8)) (x : PutR) (hx : x.wf) (hb : x.b.length ≤ 3000) (hk : k + 3010 ≤ 536870912) (w : World) (h : IsW w base bw k st) (hv : BK w base x.v x.b) :
    Calls Try.prog 15 #[.pointer (some ⟨bw, 0, none⟩), .agg #[.int .i64 x.kind, .int .u64 (x.n : Int), .int .i64 x.size, x.v]] w
      fun e w' => e = .returned (.pointer (some ⟨bw, 0, none⟩)) ∧ WStep w w' base bw (k + 3010) (stepO st (putO x)) := by
  obtain ⟨kd, N, sz, v, b⟩ := x
  obtain ⟨-, hN, hsz0, hsz1⟩ := hx
  have hlt := h.lt
  have HK := Lib.hid (kind_any kd)
  have hkb := kindOf_bd kd
  have HP : Hid (putO ⟨kd, N, sz, v, b⟩ = pPut (kindOf kd) N sz b) := Lib.hid rfl
  have HA : Hid (∀ o, Below w.heap.size w (w.alloc o)) := Lib.hid (fun o => (Below.refl _ _).alloc (Nat.le_refl _) o)
  have HI := Lib.hid (fun o => h.below (HA.out o))
  have HV := Lib.hid (fun o => hv.below (HA.out o))
  obtain ⟨⟨p, cap, hvs, g1, g2, g3⟩, -⟩ := hv
  simp only at hvs hb hN hsz0 hsz1
  subst hvs
  have HL := Lib.hid hb
  clear g3 h
  generalize hkk : kindOf kd = kk at *
  clear hkk
  obtain ⟨k1, k7⟩ := hkb
  have HPRE : Hid (∀ (o : Obj) (w' : World) (k' : Nat) (st' : Option (List UInt8)), WStep (w.alloc o) w' base bw k' st' → WStep w w' base bw k' st') := Lib.hid (fun o w' k' st' hw => WStep.pre (HA.out _) (by omega) hw)
  generalize hbn : b.length = n at *
  have HBN := Lib.hid hbn; clear hbn
  rcases (by omega : kk = 1 ∨ kk = 2 ∨ kk = 3 ∨ kk = 4 ∨ kk = 5 ∨ kk = 6 ∨ kk = 7) with rfl | rfl | rfl | rfl | rfl | rfl | rfl
  · have HS : Hid (stepO st (putO ⟨kd, N, sz, .slice p n cap, b⟩) = Wire.wNum st N sz) := Lib.hid (by rw [HP.out, wNum_step]; rfl)
    go_enter Try.func15, Try.ntmps15
    go_wp2_with fail
    refine (HK.out _).mono ?_
    rintro e w1 ⟨rfl, rfl⟩
    go_wp2_with fail
    refine (wnumber_any base bw k st N hN sz (by omega) _ (HI.out _)).mono ?_
    rintro e w1 ⟨rfl, hw1⟩
    have HF := Lib.hid ((HPRE.out _ _ _ _ hw1).mono (show k + 9 ≤ k + 3010 by omega))
    rw [← HS.out] at HF
    clear hw1
    go_wp2
    go_ret
    exact ⟨rfl, HF.out⟩
  · have HS : Hid (stepO st (putO ⟨kd, N, sz, .slice p n cap, b⟩) = Wire.wNum st (u64 (wrap64 (N : Int))) 8) := Lib.hid (by rw [HP.out, wNum_step, u64_w64 N hN]; rfl)
    go_enter Try.func15, Try.ntmps15
    go_wp2_with fail
    refine (HK.out _).mono ?_
    rintro e w1 ⟨rfl, rfl⟩
    go_wp2_with fail
    refine (wint_any base bw k st _ (by omega) _ (HI.out _)).mono ?_
    rintro e w1 ⟨rfl, hw1⟩
    have HF := Lib.hid ((HPRE.out _ _ _ _ hw1).mono (show k + 9 ≤ k + 3010 by omega))
    rw [← HS.out] at HF
    clear hw1
    go_wp2
    go_ret
    exact ⟨rfl, HF.out⟩
  · have HS : ∀ q : Bool, (q = true ↔ N % 2 = 1) → Hid (stepO st (putO ⟨kd, N, sz, .slice p n cap, b⟩) = Wire.wNum st (if q = true then 1 else 0) 1) := fun q hq => Lib.hid (by
      rw [HP.out, wNum_step]
      show stepO st (pNum (N % 2) 1) = _
      cases q with
      | true => rw [hq.1 rfl]; rfl
      | false => rw [show N % 2 = 0 from by have := mt hq.2 (by decide); omega]; rfl)
    have hq : ((N : Int) % 2 == 1) = true ↔ N % 2 = 1 := by rw [beq_iff_eq]; omega
    have HS' := HS _ hq
    clear HS hq
    go_enter Try.func15, Try.ntmps15
    go_wp2_with fail
    refine (HK.out _).mono ?_
    rintro e w1 ⟨rfl, rfl⟩
    go_wp2_with fail
    refine (wflag_any base bw k st _ (by omega) _ (HI.out _)).mono ?_
    rintro e w1 ⟨rfl, hw1⟩
    have HF := Lib.hid ((HPRE.out _ _ _ _ hw1).mono (show k + 9 ≤ k + 3010 by omega))
    rw [← HS'.out] at HF
    clear hw1
    go_wp2
    go_ret
    exact ⟨rfl, HF.out⟩
  · have HS : Hid (stepO st (putO ⟨kd, N, sz, .slice p n cap, b⟩) = Wire.wBytes st b) := Lib.hid (by rw [HP.out]; rfl)
    go_enter Try.func15, Try.ntmps15
    go_wp2_with fail
    refine (HK.out _).mono ?_
    rintro e w1 ⟨rfl, rfl⟩
    go_wp2_with fail
    refine (wbytes_any base bw k st _ b (by have := HBN.out; omega) _ (HI.out _) (HV.out _).1).mono ?_
    rintro e w1 ⟨rfl, hw1⟩
    have HF := Lib.hid ((HPRE.out _ _ _ _ hw1).mono (show _ ≤ k + 3010 by have := HBN.out; omega))
    rw [← HS.out] at HF
    clear hw1
    go_wp2
    go_ret
    exact ⟨rfl, HF.out⟩
  · have HS : Hid (stepO st (putO ⟨kd, N, sz, .slice p n cap, b⟩) = Wire.wBlob st b) := Lib.hid (by rw [HP.out, wBlob_step]; rfl)
    go_enter Try.func15, Try.ntmps15
    go_wp2_with fail
    refine (HK.out _).mono ?_
    rintro e w1 ⟨rfl, rfl⟩
    go_wp2_with fail
    refine (wblob_any base bw k st _ b (by have := HBN.out; omega) _ (HI.out _) (HV.out _)).mono ?_
    rintro e w1 ⟨rfl, hw1⟩
    have HF := Lib.hid ((HPRE.out _ _ _ _ hw1).mono (show _ ≤ k + 3010 by have := HBN.out; omega))
    rw [← HS.out] at HF
    clear hw1
    go_wp2
    go_ret
    exact ⟨rfl, HF.out⟩
  · have HS : Hid (stepO st (putO ⟨kd, N, sz, .slice p n cap, b⟩) = Wire.wBlob st b) := Lib.hid (by rw [HP.out, wBlob_step]; rfl)
    have HSTR := Lib.hid (fun o => (HV.out o).1.to_string)
    have hstr := HSTR.out (.cells #[.int .i64 kd, .int .u64 (N : Int), .int .i64 sz, .slice p n cap] 35 (0, 0))
    have HSZ : Hid ((⟨b.toArray⟩ : ByteArray).size = n) := Lib.hid (by have := HBN.out; simp [ByteArray.size]; exact this)
    have HDL : Hid ((⟨b.toArray⟩ : ByteArray).data.toList = b) := Lib.hid rfl
    generalize (⟨b.toArray⟩ : ByteArray) = S at *
    go_enter Try.func15, Try.ntmps15
    go_wp2_with fail
    refine (HK.out _).mono ?_
    rintro e w1 ⟨rfl, rfl⟩
    go_wp2_with fail
    refine (wtext_any base bw k st S (by rw [HSZ.out]; omega) _ (HI.out _)).mono ?_
    rintro e w1 ⟨rfl, hw1⟩
    have HF := Lib.hid ((HPRE.out _ _ _ _ hw1).mono (show _ ≤ k + 3010 by rw [HSZ.out]; omega))
    rw [HDL.out, ← HS.out] at HF
    clear hw1
    go_wp2
    go_ret
    exact ⟨rfl, HF.out⟩
  · have HS : Hid (stepO st (putO ⟨kd, N, sz, .slice p n cap, b⟩) = if sz < 0 then none else Wire.wNum st sz.toNat 2) := Lib.hid (by
      rw [HP.out]
      by_cases h0 : sz < 0
      · rw [if_pos h0]; unfold pPut; simp [h0, stepO]
      · rw [if_neg h0, wNum_step]; unfold pPut; simp [h0])
    go_enter Try.func15, Try.ntmps15
    go_wp2_with fail
    refine (HK.out _).mono ?_
    rintro e w1 ⟨rfl, rfl⟩
    go_wp2_with fail
    refine (wcount_any base bw k st sz hsz1 (by omega) _ (HI.out _)).mono ?_
    rintro e w1 ⟨rfl, hw1⟩
    have HF := Lib.hid ((HPRE.out _ _ _ _ hw1).mono (show k + 9 ≤ k + 3010 by omega))
    rw [← HS.out] at HF
    clear hw1
    go_wp2
    go_ret
    exact ⟨rfl, HF.out⟩
theorem pNum_len {N : Nat} {s : Int} {d : List UInt8} (h : pNum N s = some d) : d.length ≤ 8 := by
  unfold pNum at h
  split at h
  · rename_i hc
    injection h with h
    rw [← h, Wire.be_length]
    have := hc.1
    unfold Wire.maySize at this
    simp only [Bool.or_eq_true, decide_eq_true_eq] at this
    omega
  · cases h
theorem putO_len {x : PutR} {d : List UInt8} (h : putO x = some d) : d.length ≤ x.b.length + 8 := by
  unfold putO pPut at h
  split at h
  · have := pNum_len h; omega
  split at h
  · have := pNum_len h; omega
  split at h
  · have := pNum_len h; omega
  split at h
  · injection h with h; rw [← h]; omega
  split at h
  · unfold pBlob at h
    split at h
    · injection h with h; rw [← h, List.length_append, Wire.be_length]; omega
    · cases h
  split at h
  · cases h
  · have := pNum_len h; omega
theorem neq_same (a : Addr) (w : World) : (binOp .neq 25 (.pointer (some a)) (.pointer (some a))).run Try.prog w = .ok (.bool false) w := by
  have hp : Try.prog.underlying 25 = some (.pointer 28) := Try.underlying25
  obtain ⟨j, hte⟩ : ∃ j, Try.prog.info? 28 = some j := by
    have h : (Try.prog.info? 28).isSome = true := by kernel_rfl
    exact Option.isSome_iff_exists.1 h
  have h : ∀ d : Nat, (Op.equalIn (d + 1) 25 (.pointer (some a)) (.pointer (some a))).run Try.prog w = .ok true w := fun d => by
    simp [Op.equalIn, run_underlying hp, sizeOf, typeInfo, hte, run_sameAddr_same]
  simp only [binOp]
  simp [Op.equal, Op.maxDepth, h 9999]
theorem pGet_len (st : Option (List UInt8)) : (pGet st).length = wLen st := by cases st <;> rfl
theorem stepO_ss (l d : List UInt8) : stepO (some l) (some d) = some (l ++ d) := rfl
theorem stepO_ns (d : List UInt8) : stepO none (some d) = none := rfl
theorem stepO_xn (st : Option (List UInt8)) : stepO st none = none := rfl
end Go.Proofs.Ytfpcpnjegbmdbaa
namespace Go.Proofs.Ytfpcpnjegbmdbaa.wirePuts
open Go.ChangeShapes Go.WideShapes Go.ChangeAt Go.RowKit

set_option maxRecDepth 4000 in
set_option maxHeartbeats 4000000 in
theorem walk (l : List PutR) (p : Option Addr) (n cap : Nat) (hn : n = l.length) (w : World) (hs : PutS w (.slice p n cap) l) :
    Calls Try.prog 3 #[.slice p n cap] w fun e w' => e = .returned (.bool true) ∧ Below w.heap.size w w' := by
  have HFEW := Lib.hid (few_any l p n cap hn 60 w hs)
  obtain ⟨p', cap', e, h2, h3, h4, h5⟩ := hs
  injection e with e1 e2 e3
  subst e1; subst e3
  have H5 := Lib.hid h5; clear h5
  have H4 := Lib.hid h4; clear h4
  rw [← hn] at h2
  have HN := Lib.hid hn; clear hn e2
  unfold maxLen at h3
  cases hf : (fewB l && decide ((n : Int) ≤ 60)) with
  | false =>
    rw [hf] at HFEW
    go_enter Try.func3, Try.ntmps3
    go_wp2_with fail
    refine HFEW.out.mono ?_
    rintro e w1 ⟨rfl, rfl⟩
    go_wp2_with fail
    refine (known01_any _).mono ?_
    rintro e w1 ⟨rfl, hb1⟩
    go_wp2
    go_ret
    exact ⟨rfl, hb1⟩
  | true =>
    rw [hf] at HFEW
    rw [Bool.and_eq_true, decide_eq_true_eq] at hf
    obtain ⟨hfew, h60⟩ := hf
    have HB3 : Hid (∀ x ∈ l, x.b.length ≤ 3000) := Lib.hid (fun x hx => by have := List.all_eq_true.1 hfew x hx; simpa using this)
    have HW0 := Lib.hid (new_writer w)
    have hpp := neq_same ⟨w.heap.size, 0, none⟩
    clear hfew
    go_enter Try.func3, Try.ntmps3
    go_wp2_with fail
    refine HFEW.out.mono ?_
    rintro e w1 ⟨rfl, rfl⟩
    clear HFEW
    go_wp2_with fail
    go_loopw [4, 5, 6] (fun u q i wr => ∃ (k : Nat) (st : Option (List UInt8)), k ≤ n ∧ i = .int .i64 k ∧ q = .bool st.isSome ∧ BK wr w.heap.size u (pGet st) ∧ IsW wr w.heap.size w.heap.size (3010 * k) st ∧ Below w.heap.size w wr) (fun _ _ i _ => n - (intOf i).toNat)
    case atStart => exact ⟨0, some [], Nat.zero_le _, rfl, rfl, BK.nil _ _, HW0.out, (Below.refl _ _).alloc (Nat.le_refl _) _⟩
    case round =>
      obtain ⟨k, st, hk, rfl, rfl, hbk, hisw, hbw⟩ := hrel
      have HBW := Lib.hid hbw
      have HIW := Lib.hid hisw
      have HBK := Lib.hid hbk
      obtain ⟨⟨q0, c0, hu, hu1, hu2, -⟩, -⟩ := hbk
      subst hu
      clear hisw
      unfold maxLen at hu2
      by_cases hlt : k < n
      · obtain ⟨x, hx⟩ : ∃ x, l[k]? = some x := ⟨_, List.getElem?_eq_getElem (by have := HN.out; omega)⟩
        obtain ⟨b, o, rfl, hbs, hc⟩ := H5.out (by intro h; subst h; simp at hx)
        have hat := (hc k x hx).of_cells (w' := wr) fun j => hbw.cell (p := ⟨b, j, none⟩) hbs
        have hmem := List.mem_of_getElem? hx
        have hwf := (H4.out x hmem).1
        have hb3 := HB3.out x hmem
        have HXV := Lib.hid ((BK.of_old (base := w.heap.size) (H4.out x hmem).2 (Nat.le_refl _)))
        have HXK : Hid (∀ W, Below w.heap.size w W → BK W w.heap.size x.v x.b) := Lib.hid (fun W h => HXV.out.below h)
        obtain ⟨q3, c3, hv, hv1, hv2, -⟩ := (H4.out x hmem).2
        have HPUT := Lib.hid (fun W kk h hi => put_any w.heap.size w.heap.size kk st x hwf hb3 h W hi)
        have HRP := Lib.hid (fun W hb => rPut_any (kindOf x.kind) (kindOf_bd _).1 (kindOf_bd _).2 x.n hwf.2.1 x.size hwf.2.2.2 x.v x.b (by omega) w.heap.size W hb)
        have HKD := Lib.hid (kind_any x.kind)
        have HML : Hid (∀ d, putO x = some d → d.length ≤ 3008) := Lib.hid (fun d h => by have := putO_len h; omega)
        have HPO : Hid (putO x = pPut (kindOf x.kind) x.n x.size x.b) := Lib.hid rfl
        rw [← HPO.out] at HRP
        obtain ⟨c0', c1', c2', c3'⟩ := hat
        clear hx hc hmem hwf HXV hbw hb3 HPO
        obtain ⟨kd, N, sz, v, xb⟩ := x
        simp only at hv hv1 hv2 c0' c1' c2' c3'
        subst hv
        unfold maxLen at hv2
        generalize putO ⟨kd, N, sz, .slice q3 xb.length c3, xb⟩ = po at *
        generalize kindOf kd = kk at *
        generalize xb.length = m at *
        have hcw : ∀ W, Below w.heap.size w W → W.cell? ⟨b, o + k * 4, none⟩ = some (.int .i64 kd) ∧ W.cell? ⟨b, o + k * 4 + 1, none⟩ = some (.int .u64 (N : Int)) ∧ W.cell? ⟨b, o + k * 4 + 2, none⟩ = some (.int .i64 sz) ∧ W.cell? ⟨b, o + k * 4 + 3, none⟩ = some (.slice q3 m c3) := fun W h => by
          have e := fun j => (h.cell (p := ⟨b, j, none⟩) hbs).trans (HBW.out.cell (p := ⟨b, j, none⟩) hbs).symm
          exact ⟨(e _).trans c0', (e _).trans c1', (e _).trans c2', (e _).trans c3'⟩
        have HCW := Lib.hid hcw
        clear hcw
        go_wp2_with fail
        go_region_held3 (fun w' => w'.cell? ⟨b, o + k * 4, none⟩ = some (.int .i64 kd) ∧ w'.cell? ⟨b, o + k * 4 + 1, none⟩ = some (.int .u64 (N : Int)) ∧ w'.cell? ⟨b, o + k * 4 + 2, none⟩ = some (.int .i64 sz) ∧ w'.cell? ⟨b, o + k * 4 + 3, none⟩ = some (.slice q3 m c3)) (first | exact HCW.out _ (by assumption) | go_keep) (first
          | (go_at_call 14; refine (HKD.out _).mono ?_; rintro e w' ⟨rfl, rfl⟩)
          | (go_at_call 13; refine (HRP.out _ (HXK.out _ HBW.out.drew)).mono ?_; rintro e w1 ⟨u1, rfl, hbk1, hb1⟩; obtain ⟨⟨q1, c1, hu1', hu2', hu3', -⟩, -⟩ := id hbk1; subst hu1'; have hb1' : Below w.heap.size w w1 := HBW.out.drew.trans (hb1.mono HBW.out.size)))
        have HBW1 := Lib.hid hb1'
        have HI1 := Lib.hid ((HIW.out.below (Below.refl wr.heap.size wr).drew).below hb1)
        have HBK1 := Lib.hid ((HBK.out.below (Below.refl wr.heap.size wr).drew).below hb1)
        have HD1 := Lib.hid hbk1
        clear hb1 hb1' hbk1 c0' c1' c2' c3' HBK HIW
        unfold maxLen at hu3'
        generalize hm0 : (pGet st).length = m0 at *
        generalize hm1 : (pGet po).length = m1 at *
        cases po with
        | none =>
          have HB2 := HBW1
          have HI2 := HI1
          have HBK2 : Hid (BK w1 w.heap.size (.slice none 0 0) (pGet none)) := Lib.hid (BK.nil _ _)
          clear hm1
          cases st with
          | none =>
            have hcw2 := HCW.out _ HB2.out
            obtain ⟨d0, d1, d2, d3⟩ := hcw2
            go_wp2_with fail
            refine (HPUT.out _ (3010 * k) (by omega) HI2.out (HXK.out _ HB2.out)).mono ?_
            rintro e w3 ⟨rfl, hw3⟩
            have HS3 : Hid (WStep _ w3 w.heap.size w.heap.size (3010 * k + 3010) (none)) := Lib.hid hw3
            have HBK3 := Lib.hid (HBK2.out.step hw3)
            have HB3' := Lib.hid (HB2.out.trans hw3.2.1)
            clear hw3 d0 d1 d2 d3
            go_wp2_with fail
            refine (wlen_any _ _ _ _ _ HS3.out.1).mono ?_
            rintro e w4 ⟨rfl, rfl⟩
            rw [show wLen none = 0 from rfl]
            go_wp2_with fail
            refine (wend_none _ _ _ _ HS3.out.1).mono ?_
            rintro e w5 ⟨rfl, rfl⟩
            have g1 := (BS.nil w3).to_string
            have g2 := HBK3.out.1.to_string
            have HI5 := Lib.hid (HS3.out.1.mono (show 3010 * k + 3010 ≤ 3010 * (k + 1) by omega))
            go_wp2
            go_roundw
            case rel => exact ⟨k + 1, none, by omega, by go_num, rfl, HBK3.out, HI5.out, HB3'.out⟩
            case measure => simp [intOf]; omega
          | some l0 =>
            have hcw2 := HCW.out _ HB2.out
            obtain ⟨d0, d1, d2, d3⟩ := hcw2
            go_wp2_with fail
            refine (HPUT.out _ (3010 * k) (by omega) HI2.out (HXK.out _ HB2.out)).mono ?_
            rintro e w3 ⟨rfl, hw3⟩
            have HS3 : Hid (WStep _ w3 w.heap.size w.heap.size (3010 * k + 3010) (none)) := Lib.hid hw3
            have HBK3 := Lib.hid (HBK2.out.step hw3)
            have HB3' := Lib.hid (HB2.out.trans hw3.2.1)
            clear hw3 d0 d1 d2 d3
            go_wp2_with fail
            refine (wlen_any _ _ _ _ _ HS3.out.1).mono ?_
            rintro e w4 ⟨rfl, rfl⟩
            rw [show wLen none = 0 from rfl]
            go_wp2_with fail
            refine (wend_none _ _ _ _ HS3.out.1).mono ?_
            rintro e w5 ⟨rfl, rfl⟩
            have g1 := (BS.nil w3).to_string
            have g2 := HBK3.out.1.to_string
            have HI5 := Lib.hid (HS3.out.1.mono (show 3010 * k + 3010 ≤ 3010 * (k + 1) by omega))
            go_wp2
            go_roundw
            case rel => exact ⟨k + 1, none, by omega, by go_num, rfl, HBK3.out, HI5.out, HB3'.out⟩
            case measure => simp [intOf]; omega
        | some d =>
          cases st with
          | none =>
            have HB2 := HBW1
            have HI2 := HI1
            obtain rfl : m0 = 0 := hm0.symm
            have HBK2 := HBK1
            clear hm0 hm1
            have hcw2 := HCW.out _ HB2.out
            obtain ⟨d0, d1, d2, d3⟩ := hcw2
            go_wp2_with fail
            refine (HPUT.out _ (3010 * k) (by omega) HI2.out (HXK.out _ HB2.out)).mono ?_
            rintro e w3 ⟨rfl, hw3⟩
            have HS3 : Hid (WStep _ w3 w.heap.size w.heap.size (3010 * k + 3010) (none)) := Lib.hid hw3
            have HBK3 := Lib.hid (HBK2.out.step hw3)
            have HB3' := Lib.hid (HB2.out.trans hw3.2.1)
            clear hw3 d0 d1 d2 d3
            go_wp2_with fail
            refine (wlen_any _ _ _ _ _ HS3.out.1).mono ?_
            rintro e w4 ⟨rfl, rfl⟩
            rw [show wLen none = 0 from rfl]
            go_wp2_with fail
            refine (wend_none _ _ _ _ HS3.out.1).mono ?_
            rintro e w5 ⟨rfl, rfl⟩
            have g1 := (BS.nil w3).to_string
            have g2 := HBK3.out.1.to_string
            have HI5 := Lib.hid (HS3.out.1.mono (show 3010 * k + 3010 ≤ 3010 * (k + 1) by omega))
            go_wp2
            go_roundw
            case rel => exact ⟨k + 1, none, by omega, by go_num, rfl, HBK3.out, HI5.out, HB3'.out⟩
            case measure => simp [intOf]; omega
          | some l0 =>
            have HM0 : Hid (l0.length = m0) := Lib.hid hm0
            have HM1 : Hid (d.length = m1) := Lib.hid hm1
            have hm0' : m0 ≤ 200000 := by have := HI1.out.pieces; obtain ⟨_, _, _, _, _, h⟩ := this; have := HM0.out; omega
            have hm1' : m1 ≤ 20000000 := by
              have := HML.out d rfl
              have := HM1.out
              omega
            clear hm0 hm1
            go_wp2_with (at_builtin; refine wpList_append_bytes rfl _ _ rfl w.heap.size _ 0 [] rfl (World.ownsRow_nil _ _ _ _) _ l0 rfl HBK1.out.1 ?c1 HBW1.out.size ?_)
            case c1 => have := HM0.out; omega
            intro v2 w2 hown2 hg2 hn2 hat2
            have HO2 : Hid (w2.ownsRow w.heap.size 5 1 v2 l0.length (bytesV l0)) := Lib.hid hown2
            have HBA : Hid (Below w1.heap.size w1 w2) := Lib.hid ((Below.refl _ _).grown hg2 (Nat.le_refl _) (fun q hq => by cases hq))
            have HBW2 := Lib.hid (HBW1.out.trans (HBA.out.mono HBW1.out.size))
            have HAT : Hid (v2.ownBlock = none ∨ v2.ownBlock = some w1.heap.size) := Lib.hid hat2
            clear hown2 hg2 hn2 hat2
            go_wp2_with (at_builtin; refine wpList_append_bytes rfl _ _ rfl w.heap.size _ _ _ rfl HO2.out _ d rfl (HD1.out.1.below HBA.out) ?c1 HBW2.out.size ?_)
            case c1 => have := HM0.out; have := HM1.out; omega
            intro v3 w3' hown3 hg3 hn3 hat3
            have HO3 : Hid (w3'.ownsRow w.heap.size 5 1 v3 (l0 ++ d).length (bytesV (l0 ++ d))) := Lib.hid (by rw [List.length_append, bytesV_append]; exact hown3)
            have HBA3 : Hid (Below w1.heap.size w1 w3') := Lib.hid (HBA.out.grown hg3 HBA.out.size (fun q hq => by
              rcases HAT.out with h | h
              · rw [h] at hq; cases hq
              · rw [h] at hq; injection hq with hq; omega))
            have HI2 : Hid (IsW w3' w.heap.size w.heap.size (3010 * k) (some l0)) := Lib.hid (HI1.out.below HBA3.out)
            have HB2 := Lib.hid (HBW2.out.grown hg3 HBW2.out.size (fun q hq => (HO2.out.lt q hq).1))
            have HBK2 : Hid (BK w3' w.heap.size v3 (pGet (some (l0 ++ d)))) := Lib.hid (BK.of_own HO3.out)
            obtain ⟨qq, cc, hv3⟩ := own_form HO3.out
            subst hv3
            clear hown3 hg3 hn3 hat3
            obtain ⟨mm, hmm⟩ : ∃ mm, (l0 ++ d).length = mm := ⟨_, rfl⟩
            rw [hmm] at HBK2 HO3
            have HLD := Lib.hid hmm
            rw [hmm]
            clear hmm
            have hcw2 := HCW.out _ HB2.out
            obtain ⟨d0, d1, d2, d3⟩ := hcw2
            go_wp2_with fail
            refine (HPUT.out _ (3010 * k) (by omega) HI2.out (HXK.out _ HB2.out)).mono ?_
            rintro e w3 ⟨rfl, hw3⟩
            have HS3 : Hid (WStep _ w3 w.heap.size w.heap.size (3010 * k + 3010) (some (l0 ++ d))) := Lib.hid hw3
            have HBK3 := Lib.hid (HBK2.out.step hw3)
            have HB3' := Lib.hid (HB2.out.trans hw3.2.1)
            clear hw3 d0 d1 d2 d3
            go_wp2_with fail
            refine (wlen_any _ _ _ _ _ HS3.out.1).mono ?_
            rintro e w4 ⟨rfl, rfl⟩
            rw [show wLen (some (l0 ++ d)) = (l0 ++ d).length from rfl, HLD.out]
            go_wp2_with fail
            refine (wend_some _ _ _ _ (by omega) _ HS3.out.1).mono ?_
            rintro e w5 ⟨v5, rfl, hown5, hb5⟩
            rw [HLD.out] at hown5
            have g1 := (BS.of_own hown5).to_string
            have g2 := (HBK3.out.1.below hb5).to_string
            rw [show pGet (some (l0 ++ d)) = l0 ++ d from rfl] at g2
            obtain ⟨q5, c5, rfl⟩ := own_form hown5
            have HF := Lib.hid (HBK3.out.below hb5)
            have HI5 := Lib.hid ((HS3.out.1.below hb5).mono (show 3010 * k + 3010 ≤ 3010 * (k + 1) by omega))
            have HB5 := Lib.hid (HB3'.out.trans (hb5.mono HB3'.out.size))
            clear hown5 hb5
            generalize (⟨(l0 ++ d).toArray⟩ : ByteArray) = SS at *
            go_wp2
            go_roundw
            case rel => exact ⟨k + 1, some (l0 ++ d), by omega, by go_num, rfl, HF.out, HI5.out, HB5.out⟩
            case measure => simp [intOf]; omega
      · obtain rfl : k = n := by omega
        go_wp2_with fail
        refine (known01_any _).mono ?_
        rintro e w6 ⟨rfl, hb6⟩
        go_wp2
        go_ret
        exact ⟨rfl, below_callW HBW.out hb6⟩

theorem open_puts' {H : Type} {enc : TypeId × Value → H} {W : World} {held : Bool} {v : Value} {r : Reach} {b0 : Nat} {d : DataW H} {ps : List MemPlace} (hv : Value.okWide Try.prog W r b0 22 v)
    (h : DataW.Trod enc Try.prog W 0 (fun _ => true) held 22 v d ps) : ∃ (l : List PutR) (p : Option Addr) (n cap : Nat), v = .slice p n cap ∧ n = l.length ∧ PutS W (.slice p n cap) l := by
  obtain ⟨l, p, cap, rfl, hl⟩ := open_puts hv h
  exact ⟨l, p, l.length, cap, rfl, rfl, p, cap, rfl, hl⟩

set_option maxRecDepth 100000 in
theorem lifted (os : Os) (started : os.Started) (H : Type) (enc : TypeId × Value → H) :
    ReturnsInHanded {} Try.checked os 3 .any (Rows.wirePutsSpec.pre6 enc Try.prog Try.f3 Rows.wirePutsRow.domain false) (Rows.wirePutsSpec.post enc Try.prog Try.f3 false true false false) := by
  refine returnsInHanded_of_change (C := Try.checked) own started (by kernel_rfl) Try.func3
    (ChangeSpec.witness6 (enc := enc) (C := Try.checked) false ⟨#[], #[.slice none 0 0], []⟩ 8 (by kernel_rfl) (by kernel_rfl) (by kernel_rfl) (by kernel_rfl)) ?_
  intro W base args ds gs before hval0 hW hcnd _
  have hval : ∀ (j : Nat) t v, Try.f3.params[j]? = some t → args[j]? = some v → Value.okWide Try.prog W .any base t v := hval0
  have hW' := hW
  obtain ⟨p, q, hA0, hV, rfl, hfz, hnd⟩ := hW
  have hA : DataW.TrodAll enc Try.prog W 0 (fun _ => true) true Try.f3.params.toList args.toList ds p := hA0
  rw [Try.params3] at hA hval
  obtain ⟨v0, vs0, d0, ds0, p0, q0, hargs, rfl, rfl, h0, r0⟩ := trodAll_cons hA
  obtain ⟨rfl, rfl, rfl⟩ := trodAll_nil r0
  obtain rfl : args = #[v0] := by cases args; simp_all
  obtain ⟨l, p', n, cap, rfl, hn, hs⟩ := open_puts' (hval 0 _ v0 rfl rfl) h0
  clear hA0 hval0
  refine (walk l p' n cap hn W hs).mono fun e W' ⟨he, hg⟩ => ?_
  subst he
  exact ⟨_, rfl, post_law laidOut rfl hW' ⟨rfl, rfl, rfl⟩ (by kernel_rfl) hg Try.underlying4 rfl⟩

theorem proved : Rows.WirePutsSaid :=
  OpenClaim.holds_of_wide 3 Try.f3 rfl rfl rfl rfl rfl rfl rfl ⟨rfl, rfl, rfl, rfl, rfl⟩ rfl rfl rfl rfl rfl (by kernel_rfl) Try.func3 (by kernel_rfl)
    (of_decide_eq_true (by kernel_rfl)) (by unfold Func.isWrapper; first | (rw [if_pos (by decide +kernel)]; kernel_rfl) | (rw [if_neg (by decide +kernel)]; exact ⟨rfl, rfl⟩))
    (fun os started H enc _ => lifted os started H enc)
#print axioms proved
end Go.Proofs.Ytfpcpnjegbmdbaa.wirePuts
