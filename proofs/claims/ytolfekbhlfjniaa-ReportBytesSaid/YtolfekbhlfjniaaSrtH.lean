/- Contract: slices.symMergeCmpFunc at postings, whole: two sorted runs become one, those of one key as they were. -/
import Derived.Test.YtolfekbhlfjniaaSrtGA
import Derived.Test.YtolfekbhlfjniaaSrtGB
import Derived.Test.YtolfekbhlfjniaaSrtGC
import Derived.Test.YtolfekbhlfjniaaSrtGD
import Derived.Test.YtolfekbhlfjniaaSrtGE
import Derived.Test.YtolfekbhlfjniaaSrtGF
import Derived.Test.YtolfekbhlfjniaaSrtGG
set_option linter.unusedVariables false
namespace Go.Proofs.Ytolfekbhlfjniaa
open Go.RowKit

theorem CutAt.all {x y : List Pst} {h : Nat} {C : Nat → Prop} (hx : Srt.Up keyP x) (hy : Srt.Up keyP y) (e : ∃ s, CutAt x y h s ∧ C s) (s hh : Nat) (he : hh = h) (c : CutAt x y hh s) : C s := by
  obtain ⟨s', c', k⟩ := e
  subst he
  rw [c.same c' hx hy]
  exact k

theorem symMerge_rec (n : Nat) (IH : SymM n) (P x y Q : List Pst) (g cap : Nat) (w : World) (hxy : x.length + y.length ≤ n + 1) (hx : 1 < x.length) (hy : 1 < y.length) (hwx : WF x) (hwy : WF y) (hxu : Srt.Up keyP x) (hyu : Srt.Up keyP y)
    (hcap : (P ++ x ++ y ++ Q).length ≤ cap) (hmax : (P ++ x ++ y ++ Q).length ≤ 1099511627776) (h : RowL Pst.cells 10 w g (P ++ x ++ y ++ Q)) :
    Calls Try.prog 115 #[.slice (some ⟨g, 0, none⟩) (P ++ x ++ y ++ Q).length cap, .int .i64 (P.length : Int), .int .i64 ((P ++ x).length : Int), .int .i64 ((P ++ x ++ y).length : Int), .func (.func 64) #[] #[]] w
      fun v w' => v = .returned (.tuple #[]) ∧ ∃ s', Srt.Mix keyP (x ++ y) s' ∧ Srt.Up keyP s' ∧ RowL Pst.cells 10 w' g (P ++ s' ++ Q) ∧ Only g w w' := by
  generalize hq : (x.length + y.length) / 2 = q
  by_cases hc : q < x.length
  · have hh : ∀ hh, hh = (x.length + y.length) / 2 → hh < x.length := fun k e => by omega
    by_cases gA : ∃ s, CutAt x y q s ∧ s = 0
    · exact symMerge_wayA n IH P x y Q g cap w hxy hx hy hwx hwy hxu hyu hh (fun s k e c => by have := CutAt.all hxu hyu gA s k (by omega) c; omega) hcap hmax h
    · by_cases gB : ∃ s, CutAt x y q s ∧ 0 < s ∧ (s = q ∨ s < q ∧ q - s < y.length)
      · exact symMerge_wayB n IH P x y Q g cap w hxy hx hy hwx hwy hxu hyu hh (fun s k e c => by have := CutAt.all hxu hyu gB s k (by omega) c; have := hh k e; have := c.sh; omega) hcap hmax h
      · refine symMerge_wayC n IH P x y Q g cap w hxy hx hy hwx hwy hxu hyu hh (fun s k e c => ?_) hcap hmax h
        have hk : k = q := by omega
        subst hk
        have h1 : s ≠ 0 := fun e => gA ⟨s, c, e⟩
        have h2 : ¬ (0 < s ∧ (s = k ∨ s < k ∧ k - s < y.length)) := fun e => gB ⟨s, c, e⟩
        have := c.sh
        omega
  · have hh : ∀ hh, hh = (x.length + y.length) / 2 → ¬ hh < x.length := fun k e => by omega
    by_cases gA : ∃ s, CutAt x y q s ∧ s = 0
    · exact symMerge_wayD n IH P x y Q g cap w hxy hx hy hwx hwy hxu hyu hh (fun s k e c => by have := CutAt.all hxu hyu gA s k (by omega) c; omega) hcap hmax h
    · by_cases gB : ∃ s, CutAt x y q s ∧ s = x.length
      · exact symMerge_wayE n IH P x y Q g cap w hxy hx hy hwx hwy hxu hyu hh (fun s k e c => by have := CutAt.all hxu hyu gB s k (by omega) c; have := hh k e; omega) hcap hmax h
      · by_cases gC : ∃ s, CutAt x y q s ∧ 0 < s ∧ s < x.length ∧ (s = q ∨ s < q ∧ q - s < y.length)
        · exact symMerge_wayF n IH P x y Q g cap w hxy hx hy hwx hwy hxu hyu hh (fun s k e c => by have := CutAt.all hxu hyu gC s k (by omega) c; have := hh k e; have := c.sh; omega) hcap hmax h
        · refine symMerge_wayG n IH P x y Q g cap w hxy hx hy hwx hwy hxu hyu hh (fun s k e c => ?_) hcap hmax h
          have hk : k = q := by omega
          subst hk
          have h1 : s ≠ 0 := fun e => gA ⟨s, c, e⟩
          have h2 : s ≠ x.length := fun e => gB ⟨s, c, e⟩
          have h3 : ¬ (0 < s ∧ s < x.length ∧ (s = k ∨ s < k ∧ k - s < y.length)) := fun e => gC ⟨s, c, e⟩
          have := c.sh
          have := c.sx
          omega

theorem symMerge_all : ∀ n, SymM n := by
  intro n
  induction n with
  | zero => intro P x y Q g cap w h h1; omega
  | succ n ih =>
    intro P x y Q g cap w h h1 h2 h3 h4 h5 h6 h7 h8 h9
    by_cases hx : x.length = 1
    · obtain ⟨e, rfl⟩ := List.length_eq_one_iff.1 hx
      exact symMerge_one P y Q e (fun z hz => (List.mem_cons.1 hz).elim (fun q => by rw [q]; exact h3 _ (by simp)) (h4 z)) h2 h6 g cap w h7 h8 h9
    by_cases hy : y.length = 1
    · obtain ⟨e, rfl⟩ := List.length_eq_one_iff.1 hy
      exact symMerge_last P x Q e (fun z hz => (List.mem_cons.1 hz).elim (fun q => by rw [q]; exact h4 _ (by simp)) (h3 z)) (by omega) h5 g cap w h7 h8 h9
    exact symMerge_rec n ih P x y Q g cap w h (by omega) (by omega) h3 h4 h5 h6 h7 h8 h9
end Go.Proofs.Ytolfekbhlfjniaa
