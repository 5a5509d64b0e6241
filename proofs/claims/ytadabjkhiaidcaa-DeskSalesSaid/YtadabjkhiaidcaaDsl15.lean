/- Contract: a ticket's parts are put, in order (way.ticket, with a writer). -/
import Derived.Test.YtadabjkhiaidcaaDsl14
import Derived.Deep.CutBlock

set_option linter.unusedVariables false
set_option linter.unusedSimpArgs false
namespace Go.Proofs.Ytadabjkhiaidcaa
open Go.RowKit

namespace Tkt
def encC (c : Cpn) : List UInt8 := Wire.be c.fl.toNat 2 ++ Wire.be c.dy.toNat 4 ++ Wire.be c.va.toNat 8 ++ Wire.be c.st.toNat 1 ++ Wire.be c.ho.toNat 2 ++ Wire.be c.nx.toNat 8
def encX (x : Txx) : List UInt8 := Wire.be x.cd.toNat 1 ++ Wire.be x.am.toNat 8
def encE (e : Evt) : List UInt8 := Wire.be e.dy.toNat 4 ++ Wire.be e.co.toNat 1 ++ Wire.be e.fr.toNat 1 ++ Wire.be e.to.toNat 1
/-- a ticket's bytes -/
def encH (t : Tk) : List UInt8 := Wire.be t.num.toNat 8 ++ t.loc.data.toList ++ Wire.be t.iss.toNat 4 ++ Wire.be t.prev.toNat 8 ++ Wire.be t.org.toNat 8 ++ Wire.be t.fst.toNat 8 ++ Wire.be t.vou.toNat 8
def encT (t : Tk) : List UInt8 := encH t ++ Wire.be t.cs.length 1 ++ t.cs.flatMap encC ++ Wire.be t.ts.length 1 ++ t.ts.flatMap encX ++ Wire.be t.posts.toNat 1 ++ Wire.be t.hs.length 1 ++ t.hs.flatMap encE
def fitN (n : Int) (b : Nat) : Prop := 0 ≤ n ∧ n.toNat < b
structure Fits (t : Tk) : Prop where
  num : fitN t.num 18446744073709551616
  loc : t.loc.size ≤ 1000
  iss : fitN t.iss 4294967296
  prev : fitN t.prev 18446744073709551616
  org : fitN t.org 18446744073709551616
  fst : fitN t.fst 18446744073709551616
  vou : fitN t.vou 9223372036854775808
  posts : fitN t.posts 256
  nc : t.cs.length ≤ 20
  nt : t.ts.length ≤ 20
  nh : t.hs.length ≤ 100
  cs : ∀ c ∈ t.cs, fitN c.fl 65536 ∧ fitN c.dy 4294967296 ∧ fitN c.va 9223372036854775808 ∧ fitN c.st 256 ∧ fitN c.ho 65536 ∧ fitN c.nx 18446744073709551616
  ts : ∀ c ∈ t.ts, fitN c.cd 256 ∧ fitN c.am 9223372036854775808
  hs : ∀ c ∈ t.hs, fitN c.dy 4294967296 ∧ fitN c.co 256 ∧ fitN c.fr 256 ∧ fitN c.to 256
theorem fitN.val {n : Int} {b : Nat} (h : fitN n b) : ((n.toNat : Nat) : Int) = n := Int.toNat_of_nonneg h.1
end Tkt
/-- a row of records, as it is read at its places -/
theorem own_curT {α : Type} {enc : α → List Value} {n : Nat} (hn : ∀ x, (enc x).length = n) (hp : 0 < n) {w : World} {base e m : Nat} {v : Value} {l : List α} (h : w.ownsRow base e n v m (encL enc l)) :
    m = l.length ∧ ((v = .slice none 0 0 ∧ l = []) ∨ ∃ b c cur, v = .slice (some ⟨b, 0, none⟩) m c ∧ m ≤ c ∧ c ≤ maxLen ∧ w.heap[b]? = some (.cells cur e (0, 0)) ∧ ∀ (i j : Nat) (x : α), l[i]? = some x → j < n → cur[i * n + j]? = (enc x)[j]?) := by
  obtain ⟨hm, hor⟩ := recs_cases h hn hp
  refine ⟨hm, ?_⟩
  rcases hor with hz | ⟨b, c, hv, -⟩
  · exact .inl hz
  · subst hv
    rcases h.2 with ⟨h1, -⟩ | ⟨g, cap, cur, e1, hg, hh, hnc, hcm, hcs, htk⟩
    · cases h1
    · injection e1 with e1 e2 e3
      injection e1 with e1
      injection e1 with e1
      subst e1; subst e3
      refine .inr ⟨b, c, cur, by rw [hm], hnc, hcm, hh, fun i j x hx hj => ?_⟩
      rw [← (own_cellT hn (by rw [← hm] at h; exact h) hx hj).1]
      exact (cell_of_row _ _ _ _ _ _ hh).symm

end Go.Proofs.Ytadabjkhiaidcaa
