/- Contract: slices.symMergeCmpFunc at postings, whole: two sorted runs become one, those of one key as they were. Plain law: a list of sorted runs of one length, the last one shorter: what a merge sort has at each stage. Contract: slices.stableCmpFunc at postings: the list is sorted in place, those of one key as they were. -/
import Derived.Test.YtajpggnmhkpbkaaRfw19
import Derived.Test.YtajpggnmhkpbkaaRfw20
import Derived.Test.YtajpggnmhkpbkaaRfw21
import Derived.Test.YtajpggnmhkpbkaaRfw22
import Derived.Test.YtajpggnmhkpbkaaRfw23
import Derived.Test.YtajpggnmhkpbkaaRfw24
import Derived.Test.YtajpggnmhkpbkaaRfw25
import Derived.Test.YtajpggnmhkpbkaaRfw12

section
set_option linter.unusedVariables false
namespace Go.Proofs.Ytajpggnmhkpbkaa
open Go.RowKit

theorem CutAt.all {x y : List Pst} {h : Nat} {C : Nat → Prop} (hx : Srt.Up keyP x) (hy : Srt.Up keyP y) (e : ∃ s, CutAt x y h s ∧ C s) (s hh : Nat) (he : hh = h) (c : CutAt x y hh s) : C s := by
  obtain ⟨s', c', k⟩ := e
  subst he
  rw [c.same c' hx hy]
  exact k

theorem symMerge_rec (n : Nat) (IH : SymM n) (P x y Q : List Pst) (g cap : Nat) (w : World) (hxy : x.length + y.length ≤ n + 1) (hx : 1 < x.length) (hy : 1 < y.length) (hwx : WF x) (hwy : WF y) (hxu : Srt.Up keyP x) (hyu : Srt.Up keyP y)
    (hcap : (P ++ x ++ y ++ Q).length ≤ cap) (hmax : (P ++ x ++ y ++ Q).length ≤ 1099511627776) (h : RowL Pst.cells 10 w g (P ++ x ++ y ++ Q)) :
    Calls Try.prog 88 #[.slice (some ⟨g, 0, none⟩) (P ++ x ++ y ++ Q).length cap, .int .i64 (P.length : Int), .int .i64 ((P ++ x).length : Int), .int .i64 ((P ++ x ++ y).length : Int), .func (.func 61) #[] #[]] w
      fun v w' => v = .returned (.tuple #[]) ∧ ∃ s', Srt.Mix keyP (x ++ y) s' ∧ Srt.Up keyP s' ∧ RowL Pst.cells 10 w' g (P ++ s' ++ Q) ∧ Only g w w' := by
  generalize hq : (x.length + y.length) / 2 = q
  by_cases hc : q < x.length
  · have hh : ∀ hh, hh = (x.length + y.length) / 2 → hh < x.length := fun k e => by omega
    by_cases gA : ∃ s, CutAt x y q s ∧ s = 0
    · exact symMerge_wayA n IH P x y Q g cap w hxy hx hy hwx hwy hxu hyu hh (fun s k e c => by have := CutAt.all hxu hyu gA s k (by omega) c; omega) hcap hmax h
    · by_cases gB : ∃ s, CutAt x y q s ∧ 0 < s ∧ (s = q ∨ s < q ∧ q - s < y.length)
      · exact symMerge_wayB n IH P x y Q g cap w hxy hx hy hwx hwy hxu hyu hh (fun s k e c => by have := CutAt.all hxu hyu gB s k (by omega) c; have := hh k e; have := c.sh; omega) hcap hmax h
      · refine symMerge_wayC n IH P x y Q g cap w hxy hx hy hwx hwy hxu hyu hh (fun s k e c => ?_) hcap hmax h
        have hk : k = q := by omega
        subst hk
        have h1 : s ≠ 0 := fun e => gA ⟨s, c, e⟩
        have h2 : ¬ (0 < s ∧ (s = k ∨ s < k ∧ k - s < y.length)) := fun e => gB ⟨s, c, e⟩
        have := c.sh
        omega
  · have hh : ∀ hh, hh = (x.length + y.length) / 2 → ¬ hh < x.length := fun k e => by omega
    by_cases gA : ∃ s, CutAt x y q s ∧ s = 0
    · exact symMerge_wayD n IH P x y Q g cap w hxy hx hy hwx hwy hxu hyu hh (fun s k e c => by have := CutAt.all hxu hyu gA s k (by omega) c; omega) hcap hmax h
    · by_cases gB : ∃ s, CutAt x y q s ∧ s = x.length
      · exact symMerge_wayE n IH P x y Q g cap w hxy hx hy hwx hwy hxu hyu hh (fun s k e c => by have := CutAt.all hxu hyu gB s k (by omega) c; have := hh k e; omega) hcap hmax h
      · by_cases gC : ∃ s, CutAt x y q s ∧ 0 < s ∧ s < x.length ∧ (s = q ∨ s < q ∧ q - s < y.length)
        · exact symMerge_wayF n IH P x y Q g cap w hxy hx hy hwx hwy hxu hyu hh (fun s k e c => by have := CutAt.all hxu hyu gC s k (by omega) c; have := hh k e; have := c.sh; omega) hcap hmax h
        · refine symMerge_wayG n IH P x y Q g cap w hxy hx hy hwx hwy hxu hyu hh (fun s k e c => ?_) hcap hmax h
          have hk : k = q := by omega
          subst hk
          have h1 : s ≠ 0 := fun e => gA ⟨s, c, e⟩
          have h2 : s ≠ x.length := fun e => gB ⟨s, c, e⟩
          have h3 : ¬ (0 < s ∧ s < x.length ∧ (s = k ∨ s < k ∧ k - s < y.length)) := fun e => gC ⟨s, c, e⟩
          have := c.sh
          have := c.sx
          omega

theorem symMerge_all : ∀ n, SymM n := by
  intro n
  induction n with
  | zero => intro P x y Q g cap w h h1; omega
  | succ n ih =>
    intro P x y Q g cap w h h1 h2 h3 h4 h5 h6 h7 h8 h9
    by_cases hx : x.length = 1
    · obtain ⟨e, rfl⟩ := List.length_eq_one_iff.1 hx
      exact symMerge_one P y Q e (fun z hz => (List.mem_cons.1 hz).elim (fun q => by rw [q]; exact h3 _ (by simp)) (h4 z)) h2 h6 g cap w h7 h8 h9
    by_cases hy : y.length = 1
    · obtain ⟨e, rfl⟩ := List.length_eq_one_iff.1 hy
      exact symMerge_last P x Q e (fun z hz => (List.mem_cons.1 hz).elim (fun q => by rw [q]; exact h4 _ (by simp)) (h3 z)) (by omega) h5 g cap w h7 h8 h9
    exact symMerge_rec n ih P x y Q g cap w h (by omega) (by omega) h3 h4 h5 h6 h7 h8 h9
end Go.Proofs.Ytajpggnmhkpbkaa
end

section
namespace Go.Proofs.Ytajpggnmhkpbkaa
namespace Srt
variable {α : Type} {key : α → Int}

/-- runs of k sorted elements each, behind them a sorted one of fewer -/
inductive Runs (key : α → Int) (k : Nat) : List α → Prop
  | last (x : List α) : Up key x → x.length < k → Runs key k x
  | cons (x l : List α) : Up key x → x.length = k → Runs key k l → Runs key k (x ++ l)
/-- runs of k each, all of them full -/
inductive Full (key : α → Int) (k : Nat) : List α → Prop
  | nil : Full key k []
  | cons (x l : List α) : Up key x → x.length = k → Full key k l → Full key k (x ++ l)
theorem Full.snoc {k : Nat} {l x : List α} (h : Full key k l) (hx : Up key x) (hk : x.length = k) : Full key k (l ++ x) := by
  induction h with
  | nil => have := Full.cons x [] hx hk .nil; simpa using this
  | cons y l h1 h2 _ ih => rw [List.append_assoc]; exact .cons y _ h1 h2 ih
theorem Full.runs {k : Nat} {l r : List α} (h : Full key k l) (hr : Runs key k r) : Runs key k (l ++ r) := by
  induction h with
  | nil => exact hr
  | cons y l h1 h2 _ ih => rw [List.append_assoc]; exact .cons y _ h1 h2 ih
theorem Runs.first {k : Nat} {l : List α} (h : Runs key k l) (hk : k ≤ l.length) : ∃ x r, l = x ++ r ∧ Up key x ∧ x.length = k ∧ Runs key k r := by
  cases h with
  | last x h1 h2 => omega
  | cons x r h1 h2 h3 => exact ⟨x, r, rfl, h1, h2, h3⟩
theorem Runs.short {k : Nat} {l : List α} (h : Runs key k l) (hk : l.length < k) : Up key l := by
  cases h with
  | last x h1 h2 => exact h1
  | cons x r h1 h2 h3 => simp at hk; omega
theorem Runs.one {k : Nat} {l : List α} (h : Runs key k l) (hk : l.length ≤ k) : Up key l := by
  by_cases he : l.length < k
  · exact h.short he
  · obtain ⟨x, r, rfl, h1, h2, h3⟩ := h.first (by omega)
    have : r = [] := List.length_eq_zero_iff.1 (by simp at hk; omega)
    rw [this, List.append_nil]
    exact h1
end Srt
end Go.Proofs.Ytajpggnmhkpbkaa
end

section
set_option linter.unusedVariables false
set_option linter.unusedSimpArgs false
namespace Go.Proofs.Ytajpggnmhkpbkaa
open Go.RowKit
attribute [local go_sem ↓] post_execLoad post_execStore

attribute [local go_sem] post_load post_store loL_drew okL_drew there_sc World.there_drew

theorem WF.mix {x y : List Pst} (h : Srt.Mix keyP x y) (hw : WF x) : WF y := fun e he => hw e (h.symm.mem he)
theorem WF.right {x y : List Pst} (h : WF (x ++ y)) : WF y := fun e he => h e (by simp [he])
theorem WF.left {x y : List Pst} (h : WF (x ++ y)) : WF x := fun e he => h e (by simp [he])
theorem isort_at (P s Q : List Pst) (hwf : WF s) (g cap N a b : Nat) (w : World) (hN : (P ++ s ++ Q).length = N) (ha : P.length = a) (hb : (P ++ s).length = b) (hcap : N ≤ cap) (hmax : N ≤ 1099511627776)
    (h : RowL Pst.cells 10 w g (P ++ s ++ Q)) :
    Calls Try.prog 87 #[.slice (some ⟨g, 0, none⟩) N cap, .int .i64 (a : Int), .int .i64 (b : Int), .func (.func 61) #[] #[]] w
      fun e w' => e = .returned (.tuple #[]) ∧ ∃ s', Srt.Mix keyP s s' ∧ Srt.Up keyP s' ∧ RowL Pst.cells 10 w' g (P ++ s' ++ Q) ∧ Only g w w' := by
  have := isort_any P s Q hwf g cap w (by omega) (by omega) h
  rw [hN, ha, hb] at this
  exact this
theorem symMerge_at (P x y Q : List Pst) (g cap : Nat) (w : World) (h2 : 0 < x.length) (h3 : 0 < y.length) (h4 : WF x) (h5 : WF y) (h6 : Srt.Up keyP x) (h7 : Srt.Up keyP y) (N a m b : Nat) (hN : (P ++ x ++ y ++ Q).length = N)
    (ha : P.length = a) (hm : (P ++ x).length = m) (hb : (P ++ x ++ y).length = b) (hcap : N ≤ cap) (hmax : N ≤ 1099511627776) (hr : RowL Pst.cells 10 w g (P ++ x ++ y ++ Q)) :
    Calls Try.prog 88 #[.slice (some ⟨g, 0, none⟩) N cap, .int .i64 (a : Int), .int .i64 (m : Int), .int .i64 (b : Int), .func (.func 61) #[] #[]] w
      fun v w' => v = .returned (.tuple #[]) ∧ ∃ s', Srt.Mix keyP (x ++ y) s' ∧ Srt.Up keyP s' ∧ RowL Pst.cells 10 w' g (P ++ s' ++ Q) ∧ Only g w w' :=
  (symMerge_all _).maybe P x y Q g cap w (Nat.le_refl _) h2 h3 h4 h5 h6 h7 N a m b hN ha hm hb hcap hmax hr

set_option maxRecDepth 100000 in
set_option maxHeartbeats 2000000 in
theorem stable_any (s : List Pst) (hwf : WF s) (g n cap : Nat) (hn : n = s.length) (w : World) (hcap : n ≤ cap) (hmax : n ≤ 1099511627776) (h : RowL Pst.cells 10 w g s) :
    Calls Try.prog 75 #[.slice (some ⟨g, 0, none⟩) n cap, .int .i64 (n : Int), .func (.func 61) #[] #[]] w
      fun e w' => e = .returned (.tuple #[]) ∧ ∃ s', Srt.Mix keyP s s' ∧ Srt.Up keyP s' ∧ RowL Pst.cells 10 w' g s' ∧ Only g w w' := by
  have HH := Lib.hid h; have HN := Lib.hid hn; have HWF := Lib.hid hwf
  clear h hn hwf
  go_enter Try.func75, Try.ntmps75
  go_wp2
  go_loopw [7, 8] (fun i j wr => ∃ (d r : List Pst) (p q : Nat), i = .int .i64 (p : Int) ∧ j = .int .i64 (q : Int) ∧ p = d.length ∧ q = p + 20 ∧ p ≤ n ∧ Srt.Full keyP 20 d ∧ Srt.Mix keyP s (d ++ r) ∧ RowL Pst.cells 10 wr g (d ++ r) ∧ Only g w wr) (fun _ j _ => ((n : Int) + 20 - intOf j).toNat)
  case atStart => exact ⟨[], s, 0, 20, rfl, rfl, rfl, rfl, Nat.zero_le _, .nil, .refl _, HH.out, Only.refl _ _⟩
  case round =>
    obtain ⟨d, r, p, q, rfl, rfl, hp, hq, hpn, hfull, hmix, hrow, hon⟩ := hrel
    have HF := Lib.hid hfull; have HM := Lib.hid hmix; have HR := Lib.hid hrow; have HO := Lib.hid hon
    clear hfull hmix hrow hon
    have hlen : d.length + r.length = n := by rw [HN.out, HM.out.1, List.length_append]
    by_cases hlt : q ≤ n
    · obtain ⟨r1, r2, rfl, hr1⟩ : ∃ r1 r2, r = r1 ++ r2 ∧ r1.length = 20 := ⟨r.take 20, r.drop 20, (List.take_append_drop _ _).symm, by rw [List.length_take]; omega⟩
      rw [List.length_append] at hlen
      have HI := Lib.hid (isort_at d r1 r2 (WF.mix HM.out HWF.out).right.left g cap n p q wr (by simp; omega) hp.symm (by simp; omega) hcap hmax (by rw [List.append_assoc]; exact HR.out))
      obtain ⟨q2, hq2⟩ : ∃ q2, q2 = q + 20 := ⟨_, rfl⟩
      have hs1 : IntKind.i64.wrap ((q : Int) + 20) = (q2 : Int) := by rw [IntKind.wrap_i64]; omega
      have HP := Lib.hid hp; have HQ := Lib.hid hq; have HQ2 := Lib.hid hq2; have HR1 := Lib.hid hr1
      clear hp hq hq2 hr1 hlen
      go_wp2_with fail
      refine HI.out.mono ?_
      rintro e w1 ⟨rfl, s1, hm, hu, hr, ho⟩
      have HM1 := Lib.hid hm; have HU1 := Lib.hid hu; have HR2 := Lib.hid hr; have HO1 := Lib.hid ho
      clear hm hu hr ho
      go_wp2
      go_roundw
      case rel =>
        have e1 : s1.length = 20 := by rw [← HM1.out.1]; exact HR1.out
        refine ⟨d ++ s1, r2, q, q2, rfl, rfl, by rw [List.length_append, e1, HQ.out, HP.out], HQ2.out, hlt, HF.out.snoc HU1.out e1, ?_, HR2.out, HO.out.trans HO1.out⟩
        rw [List.append_assoc]
        exact HM.out.trans ((Srt.Mix.refl d).app (HM1.out.app (Srt.Mix.refl r2)))
      case measure => have := HQ2.out; simp [intOf]; omega
    · have HI := Lib.hid (isort_at d r [] (WF.mix HM.out HWF.out).right g cap n p n wr (by simp; omega) hp.symm (by simp; omega) hcap hmax (by rw [List.append_nil]; exact HR.out))
      have HL := Lib.hid (show r.length < 20 by omega)
      clear hp hq hlen
      go_wp2_with fail
      refine HI.out.mono ?_
      rintro e w1 ⟨rfl, s1, hm, hu, hr, ho⟩
      have HRN : Hid (Srt.Runs keyP 20 (d ++ s1)) := Lib.hid (HF.out.runs (.last _ hu (by rw [← hm.1]; exact HL.out)))
      have HM1 : Hid (Srt.Mix keyP s (d ++ s1)) := Lib.hid (HM.out.trans ((Srt.Mix.refl d).app hm))
      have HR1 : Hid (RowL Pst.cells 10 w1 g (d ++ s1)) := Lib.hid (by simpa using hr)
      have HO1 := Lib.hid (HO.out.trans ho)
      clear hm hu hr ho HR HM HF HO HL HI
      generalize d ++ s1 = t at *
      go_wp2
      go_loopw [6] (fun i wr => ∃ (k : Nat) (t : List Pst), i = .int .i64 (k : Int) ∧ 0 < k ∧ Srt.Runs keyP k t ∧ Srt.Mix keyP s t ∧ RowL Pst.cells 10 wr g t ∧ Only g w wr) (fun i _ => ((n : Int) - intOf i).toNat)
      case atStart => exact ⟨20, t, rfl, by decide, HRN.out, HM1.out, HR1.out, HO1.out⟩
      case round =>
        clear HRN HM1 HR1 HO1 t
        obtain ⟨k, t, rfl, hk0, hruns, hmix, hrow, hon⟩ := hrel
        have HRN := Lib.hid hruns; have HM := Lib.hid hmix; have HR := Lib.hid hrow; have HO := Lib.hid hon
        clear hruns hmix hrow hon
        by_cases hlt : k < n
        · obtain ⟨k2, hk2⟩ : ∃ k2, k2 = k * 2 := ⟨_, rfl⟩
          have hs1 : IntKind.i64.wrap (2 * (k : Int)) = (k2 : Int) := by rw [IntKind.wrap_i64]; omega
          have hs2 : IntKind.i64.wrap ((k : Int) * 2) = (k2 : Int) := by rw [IntKind.wrap_i64]; omega
          go_wp2
          go_loopw [7, 8] (fun i j wq => ∃ (d r : List Pst) (p q : Nat), i = .int .i64 (p : Int) ∧ j = .int .i64 (q : Int) ∧ p = d.length ∧ q = p + k2 ∧ p ≤ n ∧ Srt.Full keyP k2 d ∧ Srt.Runs keyP k r ∧ Srt.Mix keyP s (d ++ r) ∧ RowL Pst.cells 10 wq g (d ++ r) ∧ Only g w wq) (fun _ j _ => ((n : Int) + k2 - intOf j).toNat)
          case atStart => exact ⟨[], t, 0, k2, rfl, by congr 1; omega, rfl, by omega, Nat.zero_le _, .nil, HRN.out, HM.out, HR.out, HO.out⟩
          case round =>
            clear HRN HM HR HO t
            obtain ⟨d, r, p, q, rfl, rfl, hp, hq, hpn, hfull, hruns, hmix, hrow, hon⟩ := hrel
            have HF := Lib.hid hfull; have HRN := Lib.hid hruns; have HM := Lib.hid hmix; have HR := Lib.hid hrow; have HO := Lib.hid hon
            clear hfull hruns hmix hrow hon
            have hlen : d.length + r.length = n := by rw [HN.out, HM.out.1, List.length_append]
            obtain ⟨m, hm⟩ : ∃ m, m = p + k := ⟨_, rfl⟩
            have hs3 : IntKind.i64.wrap ((p : Int) + (k : Int)) = (m : Int) := by rw [IntKind.wrap_i64]; omega
            have hwr : WF r := (WF.mix HM.out HWF.out).right
            by_cases hqn : q ≤ n
            · obtain ⟨x, r1, hre, hxu, hxl, hr1⟩ := HRN.out.first (by omega)
              subst hre
              rw [List.length_append] at hlen
              obtain ⟨y, r2, hre, hyu, hyl, hr2⟩ := hr1.first (by omega)
              subst hre
              rw [List.length_append] at hlen
              have HS := Lib.hid (symMerge_at d x y r2 g cap wr (by omega) (by omega) hwr.left hwr.right.left hxu hyu n p m q (by simp; omega) hp.symm (by simp; omega) (by simp; omega) hcap hmax (by simpa using HR.out))
              obtain ⟨q2, hq2⟩ : ∃ q2, q2 = q + k2 := ⟨_, rfl⟩
              have hs4 : IntKind.i64.wrap ((q : Int) + (k2 : Int)) = (q2 : Int) := by rw [IntKind.wrap_i64]; omega
              have HL := Lib.hid (show x.length + y.length = k2 by omega)
              have HP := Lib.hid hp; have HQ := Lib.hid hq; have HQ2 := Lib.hid hq2; have HR2 := Lib.hid hr2
              clear hp hq hq2 hr2 hr1 hxu hyu hxl hyl hlen hwr hm
              go_wp2_with fail
              refine HS.out.mono ?_
              rintro e w2 ⟨rfl, s2, hm, hu, hr, ho⟩
              have HM1 := Lib.hid hm; have HU1 := Lib.hid hu; have HR3 := Lib.hid hr; have HO1 := Lib.hid ho
              clear hm hu hr ho
              go_wp2
              go_roundw
              case rel =>
                have e1 : s2.length = k2 := by rw [← HM1.out.1, List.length_append]; exact HL.out
                refine ⟨d ++ s2, r2, q, q2, rfl, by congr 1; have := HQ2.out; omega, by rw [List.length_append, e1, HQ.out, HP.out], HQ2.out, hqn, HF.out.snoc HU1.out e1, HR2.out, ?_, HR3.out, HO.out.trans HO1.out⟩
                rw [List.append_assoc]
                refine HM.out.trans ((Srt.Mix.refl d).app ?_)
                have := HM1.out.app (Srt.Mix.refl (key := keyP) r2)
                simpa using this
              case measure => have := HQ2.out; simp [intOf]; omega
            · by_cases hmn : m < n
              · obtain ⟨x, r1, hre, hxu, hxl, hr1⟩ := HRN.out.first (by omega)
                subst hre
                rw [List.length_append] at hlen
                have hr1u : Srt.Up keyP r1 := hr1.short (by omega)
                have HS := Lib.hid (symMerge_at d x r1 [] g cap wr (by omega) (by omega) hwr.left hwr.right hxu hr1u n p m n (by simp; omega) hp.symm (by simp; omega) (by simp; omega) hcap hmax (by simpa using HR.out))
                have HL := Lib.hid (show x.length + r1.length < k2 by omega)
                have HK2 := Lib.hid hk2
                clear hp hq hr1 hxu hxl hlen hwr hr1u hm hk2
                go_wp2_with fail
                refine HS.out.mono ?_
                rintro e w2 ⟨rfl, s2, hm, hu, hr, ho⟩
                have HU1 : Hid (Srt.Runs keyP k2 (d ++ s2)) := Lib.hid (HF.out.runs (.last _ hu (by rw [← hm.1, List.length_append]; exact HL.out)))
                have HM1 : Hid (Srt.Mix keyP s (d ++ s2)) := Lib.hid (HM.out.trans ((Srt.Mix.refl d).app hm))
                have HR3 : Hid (RowL Pst.cells 10 w2 g (d ++ s2)) := Lib.hid (by simpa using hr)
                have HO1 := Lib.hid (HO.out.trans ho)
                clear hm hu hr ho
                go_wp2
                go_roundw
                case rel => exact ⟨k2, d ++ s2, rfl, by have := HK2.out; omega, HU1.out, HM1.out, HR3.out, HO1.out⟩
                case measure => have := HK2.out; simp [intOf]; omega
              · have HU1 : Hid (Srt.Runs keyP k2 (d ++ r)) := Lib.hid (HF.out.runs (.last _ (HRN.out.one (by omega)) (by omega)))
                have HK2 := Lib.hid hk2
                clear hp hq hlen hwr hm hk2
                go_wp2
                go_roundw
                case rel => exact ⟨k2, d ++ r, rfl, by have := HK2.out; omega, HU1.out, HM.out, HR.out, HO.out⟩
                case measure => have := HK2.out; simp [intOf]; omega
        · have HU : Hid (Srt.Up keyP t) := Lib.hid (HRN.out.one (by rw [← HM.out.1, ← HN.out]; omega))
          go_wp2
          go_end0
          exact ⟨rfl, t, HM.out, HU.out, HR.out, HO.out⟩
end Go.Proofs.Ytajpggnmhkpbkaa
end
