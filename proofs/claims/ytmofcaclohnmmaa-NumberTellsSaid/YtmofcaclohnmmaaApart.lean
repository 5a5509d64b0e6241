/- NumberApart returns true for all stocks and numbers and leaves the memory that was there as it was. -/
import Derived.Test.YtmofcaclohnmmaaNumE
import Derived.Test.YtmofcaclohnmmaaLift
import Derived.Lib.SmallJoins
set_option linter.unusedVariables false
set_option linter.unusedSimpArgs false
namespace Go.Proofs.Ytmofcaclohnmmaa
open Go.ChangeShapes Go.WideShapes Go.ChangeAt Go.RowKit Go.Joins

theorem stockCells : Try.prog.cellsOf 25 = 3 := by kernel_rfl
theorem i64_bd {n : Int} (h : (Lit.int .i64 n).wf = true) : -9223372036854775808 ≤ n ∧ n ≤ 9223372036854775807 := by
  simpa [Lit.wf, IntKind.min, IntKind.max, IntKind.signed, IntKind.bits] using h
theorem u64_bd {n : Int} (h : (Lit.int .u64 n).wf = true) : 0 ≤ n ∧ n ≤ 18446744073709551615 := by
  simpa [Lit.wf, IntKind.min, IntKind.max, IntKind.signed, IntKind.bits] using h
theorem u8_bd {n : Int} (h : (Lit.int .u8 n).wf = true) : 0 ≤ n ∧ n ≤ 255 := by
  simpa [Lit.wf, IntKind.min, IntKind.max, IntKind.signed, IntKind.bits] using h
theorem open_stock {H : Type} {enc : TypeId × Value → H} {W : World} {base : Nat} {v : Value} {d : DataW H} {ps : List MemPlace}
    (hv : Value.okWide Try.prog W .any base 25 v) (h : DataW.Trod enc Try.prog W 0 (fun _ => true) true 25 v d ps) :
    ∃ c f n : Int, v = .agg #[.int .i64 c, .int .i64 f, .int .i64 n] ∧ (Lit.int .i64 c).wf = true ∧ (Lit.int .i64 f).wf = true ∧ (Lit.int .i64 n).wf = true := by
  obtain ⟨c0, c1, c2, y0, y1, y2, m, rfl, rfl, rfl, hy0, hy1, hy2⟩ := open_agg3 Try.underlying25 (by kernel_rfl) stockCells hv h
  obtain ⟨a, e0, rfl, wa⟩ := DataW.trod_int Try.underlying3 hy0
  obtain ⟨b, e1, rfl, wb⟩ := DataW.trod_int Try.underlying3 hy1
  obtain ⟨c, e2, rfl, wc⟩ := DataW.trod_int Try.underlying3 hy2
  simp at e0 e1 e2
  subst e0 e1 e2
  exact ⟨a, b, c, rfl, wa, wb, wc⟩
end Go.Proofs.Ytmofcaclohnmmaa
namespace Go.Proofs.Ytmofcaclohnmmaa.numberApart
open Go.ChangeShapes Go.WideShapes Go.ChangeAt Go.RowKit

/-- two stocks of one carrier without a serial in common, or of unlike carriers: no number is in both -/
theorem apart (c f n c' f' n' m : Int) (h : ¬ (c = c' ∧ f < f' + n' ∧ f' < f + n)) : (Num.inStock c f n m && Num.inStock c' f' n' m) = false := by
  rw [Bool.eq_false_iff]
  intro hh
  simp [Num.inStock] at hh
  omega

set_option maxHeartbeats 1000000 in
theorem walk (c f n c' f' n' m : Int) (wf : (Lit.int .i64 f).wf = true) (wn : (Lit.int .i64 n).wf = true) (wf' : (Lit.int .i64 f').wf = true) (wn' : (Lit.int .i64 n').wf = true) (wm : (Lit.int .u64 m).wf = true) (w : World) :
    Calls Try.prog 4 #[.agg #[.int .i64 c, .int .i64 f, .int .i64 n], .agg #[.int .i64 c', .int .i64 f', .int .i64 n'], .int .u64 m] w fun e w' => e = .returned (.bool true) ∧ Below w.heap.size w w' := by
  have bn := i64_bd wn; have bn' := i64_bd wn'; have bf := i64_bd wf; have bf' := i64_bd wf'
  obtain ⟨bm0, bm1⟩ := u64_bd wm
  obtain ⟨g1, g2⟩ := bf; obtain ⟨g3, g4⟩ := bf'; 
  have bna := bn; have bnb := bn'
  obtain ⟨g5, g6⟩ := bna; obtain ⟨g7, g8⟩ := bnb
  have HA := Lib.hid (apart c f n c' f' n' m)
  clear wf wn wf' wn' wm
  have HS := Lib.hid (Num.mayStock_iff (c := c) (f := f) (n := n))
  have HT := Lib.hid (Num.mayStock_iff (c := c') (f := f') (n := n'))
  obtain ⟨k, hk⟩ : ∃ k : Bool, (c == c') = k := ⟨_, rfl⟩
  have HK : Hid (k = true ↔ c = c') := Lib.hid (by rw [← hk]; exact beq_iff_eq)
  cases hms : Num.mayStock c f n <;> cases hmt : Num.mayStock c' f' n'
  case true.true =>
    obtain ⟨⟨p1, p2⟩, ⟨p3, p4⟩, p5, p6⟩ := HS.out.1 hms
    obtain ⟨⟨q1, q2⟩, ⟨q3, q4⟩, q5, q6⟩ := HT.out.1 hmt
    have HCM : Hid (Num.inStock c f n m = true → Num.inStock c' f' n' m = true → k = true ∧ f < f' + n' ∧ f' < f + n) := Lib.hid (fun h1 h2 => by
      have h3 := HA.out
      rw [h1, h2] at h3
      by_cases hcom : c = c' ∧ f < f' + n' ∧ f' < f + n
      · exact ⟨HK.out.2 hcom.1, hcom.2⟩
      · exact absurd (h3 hcom) (by decide))
    cases hi : Num.inStock c f n m <;> cases hj : Num.inStock c' f' n' m <;> cases k
    case true.true.false => exact absurd (HCM.out hi hj).1 (by decide)
    case true.true.true =>
      obtain ⟨_, r1, r2⟩ := HCM.out hi hj
      go_enter Try.func4, Try.ntmps4
      go_wp2_with fail
      refine (rMayStock_any _ _ _ (by assumption) _).mono ?_
      rintro e w1 ⟨rfl, hb1⟩
      obtain ⟨hcell, _⟩ := bcell hb1
      go_wp2_with fail
      refine (rMayStock_any _ _ _ (by assumption) _).mono ?_
      rintro e w2 ⟨rfl, hb2⟩
      have hb3 := hb1.trans (hb2.mono hb1.size)
      have hbw := (((Below.refl w.heap.size w).alloc (Nat.le_refl _) _).alloc (by simp) _).trans (hb3.mono (by simp; omega))
      have HW := Lib.hid hbw; clear hbw
      go_wp2_with (first | (go_at_call 9; refine (known_any _).mono ?_; rintro e w' ⟨rfl, rfl⟩))
      go_ret
      exact ⟨rfl, HW.out⟩
    all_goals
      clear HCM
      go_enter Try.func4, Try.ntmps4
      go_wp2_with fail
      all_goals
        refine (rMayStock_any _ _ _ (by assumption) _).mono ?_
        rintro e w1 ⟨rfl, hb1⟩
        obtain ⟨hcell, _⟩ := bcell hb1
        go_wp2_with fail
        refine (rMayStock_any _ _ _ (by assumption) _).mono ?_
        rintro e w2 ⟨rfl, hb2⟩
        have hb3 := hb1.trans (hb2.mono hb1.size)
        clear hcell
        obtain ⟨hcell, _⟩ := bcell hb3
        have hbw := (((Below.refl w.heap.size w).alloc (Nat.le_refl _) _).alloc (by simp) _).trans (hb3.mono (by simp; omega))
        have HW := Lib.hid hbw; clear hbw
        go_wp2_with (first | (go_at_call 9; refine (known_any _).mono ?_; rintro e w' ⟨rfl, rfl⟩))
        all_goals first
          | (go_ret; exact ⟨rfl, HW.out⟩)
          | (refine (in_any _ _ _ _ (by assumption) bm0 bm1 _).mono ?_
             rintro e w3 ⟨rfl, hb4⟩
             have hb5 := hb3.trans (hb4.mono hb3.size)
             replace HW := Lib.hid (HW.out.trans (hb4.mono HW.out.size))
             clear hcell
             obtain ⟨hcell, _⟩ := bcell hb5
             go_wp2_with fail
             first
               | (refine (known_any _).mono ?_
                  rintro e w' ⟨rfl, rfl⟩
                  go_wp2
                  go_ret
                  exact ⟨rfl, HW.out⟩)
               | (refine (in_any _ _ _ _ (by assumption) bm0 bm1 _).mono ?_
                  rintro e w5 ⟨rfl, hb6⟩
                  replace HW := Lib.hid (HW.out.trans (hb6.mono HW.out.size))
                  go_wp2_with (first | (go_at_call 9; refine (known_any _).mono ?_; rintro e w' ⟨rfl, rfl⟩))
                  go_ret
                  exact ⟨rfl, HW.out⟩))
  all_goals
    go_enter Try.func4, Try.ntmps4
    go_wp2_with fail
    all_goals
      refine (rMayStock_any _ _ _ (by assumption) _).mono ?_
      rintro e w1 ⟨rfl, hb1⟩
      obtain ⟨hcell, _⟩ := bcell hb1
      have hbw := (((Below.refl w.heap.size w).alloc (Nat.le_refl _) _).alloc (by simp) _).trans (hb1.mono (by simp; omega))
      have HW := Lib.hid hbw; clear hbw
      go_wp2_with fail
      first
        | (refine (known_any _).mono ?_
           rintro e w' ⟨rfl, rfl⟩
           go_wp2
           go_ret
           exact ⟨rfl, HW.out⟩)
        | (refine (rMayStock_any _ _ _ (by assumption) _).mono ?_
           rintro e w2 ⟨rfl, hb2⟩
           go_wp2_with (first | (go_at_call 9; refine (known_any _).mono ?_; rintro e w' ⟨rfl, rfl⟩))
           go_ret
           exact ⟨rfl, HW.out.trans (hb2.mono HW.out.size)⟩)

set_option maxRecDepth 100000 in
theorem lifted (os : Os) (started : os.Started) (H : Type) (enc : TypeId × Value → H) :
    ReturnsInHanded {} Try.checked os 4 .any (Rows.numberApartSpec.pre6 enc Try.prog Try.f4 Rows.numberApartRow.domain false) (Rows.numberApartSpec.post enc Try.prog Try.f4 false true false false) := by
  refine returnsInHanded_of_change (C := Try.checked) own started (by kernel_rfl) Try.func4
    (ChangeSpec.witness6 (enc := enc) (C := Try.checked) false ⟨#[], #[.agg #[.int .i64 0, .int .i64 0, .int .i64 0], .agg #[.int .i64 0, .int .i64 0, .int .i64 0], .int .u64 0], []⟩ 8 (by kernel_rfl) (by kernel_rfl) (by kernel_rfl) (by kernel_rfl)) ?_
  intro W base args ds gs before hval0 hW hcnd _
  have hval : ∀ (j : Nat) t v, Try.f4.params[j]? = some t → args[j]? = some v → Value.okWide Try.prog W .any base t v := hval0
  have hW' := hW
  obtain ⟨p, q, hA0, hV, rfl, hfz, hnd⟩ := hW
  have hA : DataW.TrodAll enc Try.prog W 0 (fun _ => true) true Try.f4.params.toList args.toList ds p := hA0
  rw [Try.params4] at hA hval
  obtain ⟨v0, vs0, d0, ds0, p0, q0, hargs, rfl, rfl, h0, r0⟩ := trodAll_cons hA
  obtain ⟨v1, vs1, d1, ds1, p1, q1, rfl, rfl, rfl, h1, r1⟩ := trodAll_cons r0
  obtain ⟨v2, vs2, d2, ds2, p2, q2, rfl, rfl, rfl, h2, r2⟩ := trodAll_cons r1
  obtain ⟨rfl, rfl, rfl⟩ := trodAll_nil r2
  obtain rfl : args = #[v0, v1, v2] := by cases args; simp_all
  obtain ⟨c, f, n, rfl, wc, wf, wn⟩ := open_stock (hval 0 _ v0 rfl rfl) h0
  obtain ⟨c', f', n', rfl, wc', wf', wn'⟩ := open_stock (hval 1 _ v1 rfl rfl) h1
  obtain ⟨m, rfl, rfl, rfl, wm⟩ := open_int Try.underlying26 (hval 2 26 v2 rfl rfl) h2
  clear hA0 hval0
  refine (walk c f n c' f' n' m wf wn wf' wn' wm W).mono fun e W' ⟨he, hg⟩ => ?_
  subst he
  exact ⟨_, rfl, post_law laidOut rfl hW' ⟨rfl, rfl, rfl⟩ (by kernel_rfl) hg Try.underlying4 rfl⟩

theorem proved : Rows.NumberApartSaid :=
  OpenClaim.holds_of_wide 4 Try.f4 rfl rfl rfl rfl rfl rfl rfl ⟨rfl, rfl, rfl, rfl, rfl⟩ rfl rfl rfl rfl rfl (by kernel_rfl) Try.func4 (by kernel_rfl)
    (of_decide_eq_true (by kernel_rfl)) (by unfold Func.isWrapper; first | (rw [if_pos (by decide +kernel)]; kernel_rfl) | (rw [if_neg (by decide +kernel)]; exact ⟨rfl, rfl⟩))
    (fun os started H enc _ => lifted os started H enc)
#print axioms proved
end Go.Proofs.Ytmofcaclohnmmaa.numberApart
