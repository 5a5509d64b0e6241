/- Contract: desk.Exchange, where an argument may not be. A region that draws its order and ends with one store into a box made in it: a law by what each operation leaves. -/
import Derived.Test.YtadabjkhiaidcaaDsl42
import Derived.Test.YtadabjkhiaidcaaDsl34
import Derived.Test.YtadabjkhiaidcaaDsl43
import Derived.Test.YtadabjkhiaidcaaDsl40

section
set_option linter.unusedVariables false
set_option linter.unusedSimpArgs false
namespace Go.Proofs.Ytadabjkhiaidcaa
open Go.ChangeShapes Go.WideShapes Go.ChangeAt Go.RowKit Go.Deep

attribute [local go_sem ↓] Tk_execLoad Tk_execStore

attribute [local go_sem] Tk_load Tk_store loL_drew okL_drew there_sc World.there_drew

/-- may what is handed in to an exchange be? -/
def Dk.xargB (t : Tk) (pen on n : Int) (fl : List Cpn) (xs : List Txx) : Bool := !(Dk.openE t on == 2) && (Tkt.someB pen && (Dk.rowB fl 4 && (Dk.taxedB xs && (!(Num.check n != 0) && (!(n == t.num) && (!(Num.carr n != Num.carr t.num) && !(n == t.org)))))))
set_option maxRecDepth 8000 in
set_option maxHeartbeats 16000000 in
theorem dexch_arg (t : Tk) (c x h : Sl) (pen on n : Int) (fl : List Cpn) (pf : Option Addr) (nf cf : Nat) (xs : List Txx) (px : Option Addr) (nx cx : Nat) (hon : I64 on) (hn : U64 n) (w : World) (ts : TS w t c x h) (hf : LS Cpn.cells 6 w (.slice pf nf cf) fl) (hx : LS Txx.cells 2 w (.slice px nx cx) xs) (hnf : nf ≤ 1000) (hbad : Dk.xargB t pen on n fl xs = false) : Calls Try.prog 17 #[.agg #[.int .u64 t.num, .string t.loc, .int .i64 t.iss, .slice c.p c.n c.c, .slice x.p x.n x.c, .int .u64 t.prev, .int .u64 t.org, .int .u64 t.fst, .int .i64 t.vou, .int .i64 t.posts, .slice h.p h.n h.c], .int .i64 pen, .int .i64 on, .int .u64 n, .slice pf nf cf, .slice px nx cx] w fun e w' => e = .returned (.tuple #[.slice none 0 0, .slice none 0 0, .int .i64 2]) ∧ Below w.heap.size w w' := by
  have HBAD := Lib.hid hbad
  clear hbad
  have HTT := Lib.hid ts; have HF := Lib.hid hf; have HX := Lib.hid hx
  have hn0 := hn.1; have hn9 : n ≤ 18446744073709551615 := by have := hn.2; omega
  have ht0 := ts.wf.num.1; have ht9 : t.num ≤ 18446744073709551615 := by have := ts.wf.num.2; omega
  obtain ⟨E, hE⟩ : ∃ E, Dk.openE t on = E := ⟨_, rfl⟩
  have HE := Lib.hid hE
  have HOP := Lib.hid (fun W ts => dopen_any t c x h on W ts)
  rw [hE] at HOP
  have hb0 := (Below.refl w.heap.size w).alloc (Nat.le_refl _) (.cells #[.int .u64 t.num, .string t.loc, .int .i64 t.iss, .slice c.p c.n c.c, .slice x.p x.n x.c, .int .u64 t.prev, .int .u64 t.org, .int .u64 t.fst, .int .i64 t.vou, .int .i64 t.posts, .slice h.p h.n h.c] 45 (0, 0))
  have hr0 := new_rowW w (.cells #[.int .u64 t.num, .string t.loc, .int .i64 t.iss, .slice c.p c.n c.c, .slice x.p x.n x.c, .int .u64 t.prev, .int .u64 t.org, .int .u64 t.fst, .int .i64 t.vou, .int .i64 t.posts, .slice h.p h.n h.c] 45 (0, 0)) _ rfl
  have HTS := Lib.hid (ts.below hb0); have HFS := Lib.hid (hf.below hb0); have HXS := Lib.hid (hx.below hb0)
  have HB0 := Lib.hid hb0; have HR0 := Lib.hid hr0
  obtain ⟨f1, f2⟩ := row_loT 11 hr0 rfl rfl
  have HRW := Lib.hid (fun W hl => drow_any fl pf nf cf 4 W hl hnf)
  clear ts hf hx hon hn hE hb0 hr0 hnf
  go_enter Try.func17, Try.ntmps17
  go_wp2_with fail
  clear f1 f2
  generalize w.alloc (.cells #[.int .u64 t.num, .string t.loc, .int .i64 t.iss, .slice c.p c.n c.c, .slice x.p x.n x.c, .int .u64 t.prev, .int .u64 t.org, .int .u64 t.fst, .int .i64 t.vou, .int .i64 t.posts, .slice h.p h.n h.c] 45 (0, 0)) = W0 at *
  refine (HOP.out W0 HTS.out).mono ?_
  rintro e w1 ⟨rfl, hb1⟩
  have HBB := Lib.hid hb1
  have HR0 := Lib.hid ((HBB.out.block _ (block_lt HR0.out)).trans HR0.out); have HB0 := Lib.hid (HB0.out.trans (HBB.out.mono HB0.out.size))
  have HTS := Lib.hid (HTS.out.below HBB.out); have HFS := Lib.hid (HFS.out.below HBB.out); have HXS := Lib.hid (HXS.out.below HBB.out)
  clear hb1 HOP HBB
  go_wp2_with fail
  refine (HRW.out w1 HFS.out).mono ?_
  rintro e w2 ⟨v, rfl, hown, hb2⟩
  have HBB := Lib.hid hb2
  have HOW := Lib.hid hown
  have HR0 := Lib.hid ((HBB.out.block _ (block_lt HR0.out)).trans HR0.out); have HB0 := Lib.hid (HB0.out.trans (HBB.out.mono HB0.out.size))
  have HTS := Lib.hid (HTS.out.below HBB.out); have HFS := Lib.hid (HFS.out.below HBB.out); have HXS := Lib.hid (HXS.out.below HBB.out)
  clear hb2 HBB HRW hown
  go_upto_region 3 with fail
  have HPN := Lib.hid (fun W => damount_any pen W)
  have HTX := Lib.hid (fun W hl => dtaxed_any xs px nx cx W hl)
  have HCK := Lib.hid (fun W => check_any n hn0 hn9 W)
  have HC1 := Lib.hid (fun W => carrier_any n hn0 hn9 W)
  have HC2 := Lib.hid (fun W => carrier_any t.num ht0 ht9 W)
  obtain ⟨q0, hq0⟩ : ∃ q, (E == 2) = q := ⟨_, rfl⟩
  obtain ⟨q1, hq1⟩ : ∃ q, Tkt.someB pen = q := ⟨_, rfl⟩
  obtain ⟨q2, hq2⟩ : ∃ q, Dk.rowB fl 4 = q := ⟨_, rfl⟩
  obtain ⟨q3, hq3⟩ : ∃ q, Dk.taxedB xs = q := ⟨_, rfl⟩
  obtain ⟨ck, hck⟩ : ∃ k, Num.check n = k := ⟨_, rfl⟩
  obtain ⟨q4, hq4⟩ : ∃ q, (ck != 0) = q := ⟨_, rfl⟩
  obtain ⟨q5, hq5⟩ : ∃ q, (n == t.num) = q := ⟨_, rfl⟩
  obtain ⟨c1, hc1⟩ : ∃ k, Num.carr n = k := ⟨_, rfl⟩
  obtain ⟨c2, hc2⟩ : ∃ k, Num.carr t.num = k := ⟨_, rfl⟩
  obtain ⟨q6, hq6⟩ : ∃ q, (c1 != c2) = q := ⟨_, rfl⟩
  obtain ⟨q7, hq7⟩ : ∃ q, (n == t.org) = q := ⟨_, rfl⟩
  rw [hq1] at HPN; rw [hq3] at HTX; rw [hck] at HCK; rw [hc1] at HC1; rw [hc2] at HC2; rw [hq2] at HOW
  simp only [hq2]
  have kr := fun (u : Later w2) (j : Nat) => (u.cell w.heap.size j (block_lt HR0.out)).trans (cell_of_row w2 w.heap.size j _ _ _ HR0.out)
  have HQ : Hid ((!q0 && (q1 && (q2 && (q3 && (!q4 && (!q5 && (!q6 && !q7))))))) = false) := Lib.hid (by
    have h := HBAD.out
    unfold Dk.xargB at h
    rw [HE.out, hq0, hq1, hq2, hq3, hck, hq4, hq5, hc1, hc2, hq6, hq7] at h
    exact h)
  clear hq1 hq2 hq3 hck hc1 hc2 HBAD HOW
  cases q0
  · cases q1
    · refine wp_region_later (by kernel_rfl) (by kernel_rfl) ?_
      repeat (go_big_quiet_step (first | (go_at_call 51; exact later_same (HPN.out _)) | (go_at_call 22; exact later_call (HTX.out _ (HXS.out.below (Later.prop _)))) | (go_at_call 55; exact later_same (HCK.out _)) | (go_at_call 56; first | with_reducible exact later_same (HC1.out _) | with_reducible exact later_same (HC2.out _))))
      refine wpQuiet_nil ?_
      rintro w3 ⟨u, rfl⟩
      have HF3 := Lib.hid (HB0.out.trans (u.prop.mono HB0.out.size))
      clear kr
      generalize u.val = w3 at *
      go_wp2
      go_ret3
      exact ⟨rfl, HF3.out⟩
    · cases q2
      · refine wp_region_later (by kernel_rfl) (by kernel_rfl) ?_
        repeat (go_big_quiet_step (first | (go_at_call 51; exact later_same (HPN.out _)) | (go_at_call 22; exact later_call (HTX.out _ (HXS.out.below (Later.prop _)))) | (go_at_call 55; exact later_same (HCK.out _)) | (go_at_call 56; first | with_reducible exact later_same (HC1.out _) | with_reducible exact later_same (HC2.out _))))
        refine wpQuiet_nil ?_
        rintro w3 ⟨u, rfl⟩
        have HF3 := Lib.hid (HB0.out.trans (u.prop.mono HB0.out.size))
        clear kr
        generalize u.val = w3 at *
        go_wp2
        go_ret3
        exact ⟨rfl, HF3.out⟩
      · cases q3
        · refine wp_region_later (by kernel_rfl) (by kernel_rfl) ?_
          repeat (go_big_quiet_step (first | (go_at_call 51; exact later_same (HPN.out _)) | (go_at_call 22; exact later_call (HTX.out _ (HXS.out.below (Later.prop _)))) | (go_at_call 55; exact later_same (HCK.out _)) | (go_at_call 56; first | with_reducible exact later_same (HC1.out _) | with_reducible exact later_same (HC2.out _))))
          refine wpQuiet_nil ?_
          rintro w3 ⟨u, rfl⟩
          have HF3 := Lib.hid (HB0.out.trans (u.prop.mono HB0.out.size))
          clear kr
          generalize u.val = w3 at *
          go_wp2
          go_ret3
          exact ⟨rfl, HF3.out⟩
        · cases q4
          · cases q5
            · cases q6
              · cases q7
                · exact absurd HQ.out (by decide)
                · refine wp_region_later (by kernel_rfl) (by kernel_rfl) ?_
                  repeat (go_big_quiet_step (first | (go_at_call 51; exact later_same (HPN.out _)) | (go_at_call 22; exact later_call (HTX.out _ (HXS.out.below (Later.prop _)))) | (go_at_call 55; exact later_same (HCK.out _)) | (go_at_call 56; first | with_reducible exact later_same (HC1.out _) | with_reducible exact later_same (HC2.out _))))
                  refine wpQuiet_nil ?_
                  rintro w3 ⟨u, rfl⟩
                  have HF3 := Lib.hid (HB0.out.trans (u.prop.mono HB0.out.size))
                  clear kr
                  generalize u.val = w3 at *
                  go_wp2
                  go_ret3
                  exact ⟨rfl, HF3.out⟩
              · refine wp_region_later (by kernel_rfl) (by kernel_rfl) ?_
                repeat (go_big_quiet_step (first | (go_at_call 51; exact later_same (HPN.out _)) | (go_at_call 22; exact later_call (HTX.out _ (HXS.out.below (Later.prop _)))) | (go_at_call 55; exact later_same (HCK.out _)) | (go_at_call 56; first | with_reducible exact later_same (HC1.out _) | with_reducible exact later_same (HC2.out _))))
                refine wpQuiet_nil ?_
                rintro w3 ⟨u, rfl⟩
                have HF3 := Lib.hid (HB0.out.trans (u.prop.mono HB0.out.size))
                clear kr
                generalize u.val = w3 at *
                go_wp2
                go_ret3
                exact ⟨rfl, HF3.out⟩
            · refine wp_region_later (by kernel_rfl) (by kernel_rfl) ?_
              repeat (go_big_quiet_step (first | (go_at_call 51; exact later_same (HPN.out _)) | (go_at_call 22; exact later_call (HTX.out _ (HXS.out.below (Later.prop _)))) | (go_at_call 55; exact later_same (HCK.out _)) | (go_at_call 56; first | with_reducible exact later_same (HC1.out _) | with_reducible exact later_same (HC2.out _))))
              refine wpQuiet_nil ?_
              rintro w3 ⟨u, rfl⟩
              have HF3 := Lib.hid (HB0.out.trans (u.prop.mono HB0.out.size))
              clear kr
              generalize u.val = w3 at *
              go_wp2
              go_ret3
              exact ⟨rfl, HF3.out⟩
          · refine wp_region_later (by kernel_rfl) (by kernel_rfl) ?_
            repeat (go_big_quiet_step (first | (go_at_call 51; exact later_same (HPN.out _)) | (go_at_call 22; exact later_call (HTX.out _ (HXS.out.below (Later.prop _)))) | (go_at_call 55; exact later_same (HCK.out _)) | (go_at_call 56; first | with_reducible exact later_same (HC1.out _) | with_reducible exact later_same (HC2.out _))))
            refine wpQuiet_nil ?_
            rintro w3 ⟨u, rfl⟩
            have HF3 := Lib.hid (HB0.out.trans (u.prop.mono HB0.out.size))
            clear kr
            generalize u.val = w3 at *
            go_wp2
            go_ret3
            exact ⟨rfl, HF3.out⟩
  · refine wp_region_later (by kernel_rfl) (by kernel_rfl) ?_
    repeat (go_big_quiet_step (first | (go_at_call 51; exact later_same (HPN.out _)) | (go_at_call 22; exact later_call (HTX.out _ (HXS.out.below (Later.prop _)))) | (go_at_call 55; exact later_same (HCK.out _)) | (go_at_call 56; first | with_reducible exact later_same (HC1.out _) | with_reducible exact later_same (HC2.out _))))
    refine wpQuiet_nil ?_
    rintro w3 ⟨u, rfl⟩
    have HF3 := Lib.hid (HB0.out.trans (u.prop.mono HB0.out.size))
    clear kr
    generalize u.val = w3 at *
    go_wp2
    go_ret3
    exact ⟨rfl, HF3.out⟩
end Go.Proofs.Ytadabjkhiaidcaa
end

section
set_option linter.unusedVariables false
set_option linter.unusedSimpArgs false
namespace Go.Proofs.Ytadabjkhiaidcaa
open Go.RowKit Go.Deep
theorem no_ft {X : Bool} {A : Prop} (h1 : X = false) (h2 : X = true) : A := by rw [h1] at h2; cases h2
theorem itePos {c : Prop} [Decidable c] {A B : Prop} (h : c) (a : A) : if c then A else B := by rw [if_pos h]; exact a
theorem iteNeg {c : Prop} [Decidable c] {A B : Prop} (h : ¬ c) (b : B) : if c then A else B := by rw [if_neg h]; exact b
section
variable {P : Program}

/-- an operation that the store does not wait for: it turns no world -/
def StepE (P : Program) (l : List Oper) (Q : Exit → Act → World → Prop) (E : Nat → Value → Prop) (a : Act) (k : Nat) (o : Oper) : Prop :=
  ∀ (f : Nat → Value) (w : World), (∀ j, waitsB .any l.toArray k j = true → E j (f j)) →
    ∀ K' : Act → World → Prop, Shut (∀ v w', w' = w → E k v → K' ((putF l 0 f a).put o.dst v) w') →
      if Region.wanted o (yielded l.toArray (putF l 0 f a).tmps) = true then Oper.wp P o (putF l 0 f a) w K' Q else K' ((putF l 0 f a).put o.dst undef) w
/-- the store -/
def StepS (P : Program) (l : List Oper) (Q : Exit → Act → World → Prop) (G : World → Prop) (R : Nat → Value → World → Prop) (E : Nat → Value → Prop) (Fin : (Nat → Value) → World → Prop) (a : Act) (k : Nat) (o : Oper) : Prop :=
  ∀ (f : Nat → Value) (w : World), G w → (∀ j, waitsB .any l.toArray k j = true → R j (f j) w) →
    ∀ K' : Act → World → Prop, Shut (∀ v w', E k v → Fin f w' → K' ((putF l 0 f a).put o.dst v) w') →
      if Region.wanted o (yielded l.toArray (putF l 0 f a).tmps) = true then Oper.wp P o (putF l 0 f a) w K' Q else K' ((putF l 0 f a).put o.dst undef) w
def StepsB (P : Program) (l : List Oper) (Q : Exit → Act → World → Prop) (s : Nat) (T : World → World → Prop) (G : World → Prop) (R : Nat → Value → World → Prop) (E : Nat → Value → Prop) (Fin : (Nat → Value) → World → Prop) (a : Act) : Nat → List Oper → Prop
  | _, [] => True
  | k, o :: r => (if k = s then StepS P l Q G R E Fin a k o else if waitsB .any l.toArray s k = true then StepR P l Q T G R a k o else StepE P l Q E a k o) ∧ StepsB P l Q s T G R E Fin a (k + 1) r
theorem StepsB.consS {l : List Oper} {Q : Exit → Act → World → Prop} {s : Nat} {T : World → World → Prop} {G : World → Prop} {R : Nat → Value → World → Prop} {E : Nat → Value → Prop} {Fin : (Nat → Value) → World → Prop} {a : Act} {k : Nat} {o : Oper} {r : List Oper} (hk : k = s) (h : StepS P l Q G R E Fin a k o) (t : StepsB P l Q s T G R E Fin a (k + 1) r) : StepsB P l Q s T G R E Fin a k (o :: r) := ⟨by rw [if_pos hk]; exact h, t⟩
theorem StepsB.consR {l : List Oper} {Q : Exit → Act → World → Prop} {s : Nat} {T : World → World → Prop} {G : World → Prop} {R : Nat → Value → World → Prop} {E : Nat → Value → Prop} {Fin : (Nat → Value) → World → Prop} {a : Act} {k : Nat} {o : Oper} {r : List Oper} (hk : ¬ k = s) (hw : waitsB .any l.toArray s k = true) (h : StepR P l Q T G R a k o) (t : StepsB P l Q s T G R E Fin a (k + 1) r) : StepsB P l Q s T G R E Fin a k (o :: r) := ⟨by rw [if_neg hk, if_pos hw]; exact h, t⟩
theorem StepsB.consE {l : List Oper} {Q : Exit → Act → World → Prop} {s : Nat} {T : World → World → Prop} {G : World → Prop} {R : Nat → Value → World → Prop} {E : Nat → Value → Prop} {Fin : (Nat → Value) → World → Prop} {a : Act} {k : Nat} {o : Oper} {r : List Oper} (hk : ¬ k = s) (hw : waitsB .any l.toArray s k = false) (h : StepE P l Q E a k o) (t : StepsB P l Q s T G R E Fin a (k + 1) r) : StepsB P l Q s T G R E Fin a k (o :: r) := ⟨by rw [if_neg hk, if_neg (by rw [hw]; decide)]; exact h, t⟩
theorem StepsB.at {l : List Oper} {Q : Exit → Act → World → Prop} {s : Nat} {T : World → World → Prop} {G : World → Prop} {R : Nat → Value → World → Prop} {E : Nat → Value → Prop} {Fin : (Nat → Value) → World → Prop} {a : Act} : ∀ {m : List Oper} {k i : Nat} {o : Oper}, StepsB P l Q s T G R E Fin a k m → m[i]? = some o →
    (if k + i = s then StepS P l Q G R E Fin a (k + i) o else if waitsB .any l.toArray s (k + i) = true then StepR P l Q T G R a (k + i) o else StepE P l Q E a (k + i) o)
  | [], _, _, _, _, h => by cases h
  | x :: r, k, 0, o, hs, h => by
    injection h with h
    subst h
    exact hs.1
  | x :: r, k, i + 1, o, hs, h => by
    have := StepsB.at (i := i) hs.2 (by simpa using h)
    rwa [show k + 1 + i = k + (i + 1) by omega] at this
theorem wp_region_box {Q : Exit → Act → World → Prop} {id : Nat} {l : List Oper} {a : Act} {w : World} (s : Nat) (T : World → World → Prop) (G : World → Prop) (R : Nat → Value → World → Prop) (E : Nat → Value → Prop) (Fin : (Nat → Value) → World → Prop)
    (hm : P.follows .mixedOrders = true) (hup : upB l.toArray = true) (hdst : dstsB l = true) (hs : s < l.length)
    (hT : ∀ k v w w', T w w' → R k v w → R k v w') (hRE : ∀ k v w, R k v w → E k v) (hER : ∀ k v w, k ≠ s → waitsB .any l.toArray s k = false → E k v → R k v w) (hF : ∀ f g W, (∀ j, waitsB .any l.toArray s j = true → f j = g j) → Fin f W → Fin g W)
    (h0 : G w.drew) (hst : StepsB P l Q s T G R E Fin a 0 l) (hd : ∀ (f : Nat → Value) (w : World), Fin f w → (∀ i, i < l.length → E i (f i)) → Q .normal (putF l 0 f a) w) : (Code.region id l.toArray true).wp P Q a w := by
  let I : Array Bool → Act → World → Prop := fun L a' W => ∃ f : Nat → Value, a' = putF l 0 f a ∧ (∀ k, L.getD k false = true → E k (f k)) ∧ (L.getD s false = false → G W ∧ ∀ k, L.getD k false = true → R k (f k) W) ∧ (L.getD s false = true → Fin f W ∧ ∀ j, waitsB .any l.toArray s j = true → L.getD j false = true)
  have key : ∀ (i : Nat) (o : Oper), l[i]? = some o → StepI P l.toArray Q I i o := by
    intro i o ho L a' W ⟨f, e, hE, hA, hZ⟩ hw hun K' hK
    subst e
    have hun2 : L.getD i false = false ∧ i < L.size := by
      rw [Array.getD_eq_getD_getElem?] at hun ⊢
      cases hq : L[i]? with
      | none => rw [hq] at hun; cases hun
      | some b => rw [hq] at hun; exact ⟨hun, (Array.getElem?_eq_some_iff.1 hq).1⟩
    replace hun := hun2.1
    have hst' := hst.at (i := i) ho
    rw [Nat.zero_add] at hst'
    have hput : ∀ v, (putF l 0 f a).put o.dst v = putF l 0 (fun j => if j = i then v else f j) a := fun v => by
      rw [putF_set l 0 i o f a v hdst ho]
      exact putF_congr _ _ _ _ _ (fun j _ => by rw [Nat.zero_add])
    have hEn : ∀ v, E i v → ∀ k, (L.setIfInBounds i true).getD k false = true → E k (if k = i then v else f k) := fun v hv k hk => by
      by_cases hki : k = i
      · rw [if_pos hki, hki]; exact hv
      · rw [if_neg hki]; exact hE k (up_set hk (fun e => hki e.symm))
    by_cases his : i = s
    · subst his
      rw [if_pos rfl] at hst'
      obtain ⟨hG, hR⟩ := hA hun
      refine hst' f W hG (fun j hj => hR j (hw j hj)) K' (fun v w' hv hfin => hK _ _ ⟨fun j => if j = i then v else f j, hput v, hEn v hv, fun h => ?_, fun _ => ⟨hF f _ w' (fun j hj => ?_) hfin, fun j hj => ?_⟩⟩)
      · exfalso
        rw [Array.getD_eq_getD_getElem?, Array.getElem?_setIfInBounds_self_of_lt hun2.2] at h
        cases h
      · have : j ≠ i := fun e => by
          subst e
          have := hw j hj
          rw [hun] at this
          cases this
        show f j = if j = i then v else f j
        rw [if_neg this]
      · have h1 := hw j hj
        by_cases hji : i = j
        · subst hji; rw [hun] at h1; cases h1
        · rw [getD_set_ne false hji]; exact h1
    · rw [if_neg his] at hst'
      have hsn : (L.setIfInBounds i true).getD s false = L.getD s false := getD_set_ne false his
      by_cases hws : waitsB .any l.toArray s i = true
      · rw [if_pos hws] at hst'
        have hsf : L.getD s false = false := by
          cases hq : L.getD s false
          · rfl
          · have := (hZ hq).2 i hws
            rw [hun] at this
            cases this
        obtain ⟨hG, hR⟩ := hA hsf
        refine hst' f W hG (fun j hj => hR j (hw j hj)) K' (fun v w' hTw hG' hRv => hK _ _ ⟨fun j => if j = i then v else f j, hput v, hEn v (hRE _ _ _ hRv), fun _ => ⟨hG', fun k hk => ?_⟩, fun h => ?_⟩)
        · by_cases hki : k = i
          · subst hki
            show R k (if k = k then v else f k) w'
            rw [if_pos rfl]; exact hRv
          · show R k (if k = i then v else f k) w'
            rw [if_neg hki]; exact hT _ _ _ _ hTw (hR k (up_set hk (fun e => hki e.symm)))
        · rw [hsn, hsf] at h; cases h
      · rw [if_neg hws] at hst'
        have hwf : waitsB .any l.toArray s i = false := by simpa using hws
        refine hst' f W (fun j hj => hE j (hw j hj)) K' (fun v w' he hv => hK _ _ ⟨fun j => if j = i then v else f j, hput v, hEn v hv, fun h => ?_, fun h => ?_⟩)
        · subst he
          obtain ⟨hG, hR⟩ := hA (by rw [← hsn]; exact h)
          refine ⟨hG, fun k hk => ?_⟩
          by_cases hki : k = i
          · subst hki
            show R k (if k = k then v else f k) w'
            rw [if_pos rfl]; exact hER k v w' his hwf hv
          · show R k (if k = i then v else f k) w'
            rw [if_neg hki]; exact hR k (up_set hk (fun e => hki e.symm))
        · subst he
          obtain ⟨hfin, hcl⟩ := hZ (by rw [← hsn]; exact h)
          refine ⟨hF f _ w' (fun j hj => ?_) hfin, fun j hj => ?_⟩
          · show f j = if j = i then v else f j
            rw [if_neg (fun e => by subst e; rw [hwf] at hj; cases hj)]
          · rw [getD_set_ne false (fun e => by subst e; rw [hwf] at hj; cases hj)]
            exact hcl j hj
  refine wp_region_inv I hm hup ?_ ?_ ?_
  · exact ⟨fun j => getF a (l[j]?), (putF_self [] l a).symm, fun k hk => False.elim (not_up (n := l.length) (j := k) hk), fun _ => ⟨h0, fun k hk => False.elim (not_up (n := l.length) (j := k) hk)⟩, fun h => False.elim (not_up (n := l.length) (j := s) h)⟩
  · have hall : ∀ (m : List Oper) (k : Nat), (∀ i o, m[i]? = some o → StepI P l.toArray Q I (k + i) o) → StepsI P l.toArray Q I k m := by
      intro m
      induction m with
      | nil => intro k _; trivial
      | cons x r ih => exact fun k h => ⟨h 0 x rfl, ih (k + 1) (fun i o hi => by have := h (i + 1) o (by simpa using hi); rwa [show k + (i + 1) = k + 1 + i by omega] at this)⟩
    exact hall l 0 (fun i o hi => by rw [Nat.zero_add]; exact key i o hi)
  · rintro L a' W ⟨f, rfl, hE, _, hZ⟩ hL
    exact hd f W (hZ (hL s hs)).1 (fun i hi => hE i (hL i hi))
end
end Go.Proofs.Ytadabjkhiaidcaa
end
