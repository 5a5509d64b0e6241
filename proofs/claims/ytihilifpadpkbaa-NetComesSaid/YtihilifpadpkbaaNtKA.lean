/- What the net chapter's rows lean on: two nets that go on apart. -/
import Derived.Test.YtihilifpadpkbaaNtE
import Derived.Test.YtihilifpadpkbaaNtI
set_option linter.unusedVariables false
set_option linter.unusedSimpArgs false
namespace Go.Proofs.Ytihilifpadpkbaa
open Go.RowKit

namespace Nt
def kA : Lt := ⟨123, 456, 0, 0, 0, 0, 0, 0, 0, 0, 0, 0, 0, 0, 0⟩
def kB : Lt := ⟨456, 123, 0, 0, 0, 0, 0, 0, 0, 0, 0, 0, 0, 0, 0⟩
theorem kA_fit : kA.fit := ⟨⟨by decide, by decide⟩, ⟨by decide, by decide⟩, ⟨by decide, by decide⟩, ⟨by decide, by decide⟩⟩
theorem kB_fit : kB.fit := ⟨⟨by decide, by decide⟩, ⟨by decide, by decide⟩, ⟨by decide, by decide⟩, ⟨by decide, by decide⟩⟩
theorem kA_may : kA.may = true := by decide
theorem kB_may : kB.may = true := by decide
theorem k_one : told 2 false [2, 1] [⟨kA, 0⟩, ⟨kB, 0⟩] = [kA] ∧ stay 2 false [2, 1] [⟨kA, 0⟩, ⟨kB, 0⟩] = [⟨kA, 1⟩, ⟨kB, 1⟩] := ⟨rfl, rfl⟩
theorem k_two : told 2 false [3, 1] [⟨kA, 1⟩, ⟨kB, 1⟩] = [kB] ∧ stay 2 false [3, 1] [⟨kA, 1⟩, ⟨kB, 1⟩] = [] := ⟨rfl, rfl⟩
theorem k_three : told 2 true [4, 3] [⟨kA, 0⟩, ⟨kB, 0⟩] = [kB, kA] ∧ stay 2 true [4, 3] [⟨kA, 0⟩, ⟨kB, 0⟩] = [] := ⟨rfl, rfl⟩
end Nt
theorem IsN.mono {w : World} {base b0 g : Nat} {k : Int} {calm : Bool} {v : Value} {all : List Hd} (h : IsN w base g k calm v all) (h0 : b0 ≤ base) : IsN w b0 g k calm v all :=
  ⟨Nat.le_trans h0 h.1, h.2.1, own_monoR h.2.2.1 h0, h.2.2.2⟩

/-- the two nets of the rows, at blocks g and h, and the letters a and b -/
structure Kn (w : World) (g h : Nat) (W : World) (ln lm : List Hd) : Prop where
  n : ∃ v, IsN W g g 2 false v ln ∧ ∀ b, v.ownBlock = some b → b ≠ h
  m : ∃ v, IsN W h h 2 true v lm
  b : Below w.heap.size w W
  ra : W.heap[w.heap.size]? = some (.cells #[.int .i64 123, .int .i64 456, .int .u64 0, .int .u64 0, .int .i64 0, .int .u64 0, .int .i64 0, .int .i64 0, .int .i64 0, .int .i64 0, .int .i64 0, .int .i64 0, .int .i64 0, .int .i64 0, .int .u64 0] 35 (0, 0))
  rb : W.heap[w.heap.size + 1]? = some (.cells #[.int .i64 456, .int .i64 123, .int .u64 0, .int .u64 0, .int .i64 0, .int .u64 0, .int .i64 0, .int .i64 0, .int .i64 0, .int .i64 0, .int .i64 0, .int .i64 0, .int .i64 0, .int .i64 0, .int .u64 0] 35 (0, 0))
  lo : w.heap.size + 2 ≤ g
  gh : g < h
  hW : h < W.heap.size
def Kn.S (w : World) : World → Prop := fun w' => (loL 15 w' w.heap.size 0 = [.int .i64 123, .int .i64 456, .int .u64 0, .int .u64 0, .int .i64 0, .int .u64 0, .int .i64 0, .int .i64 0, .int .i64 0, .int .i64 0, .int .i64 0, .int .i64 0, .int .i64 0, .int .i64 0, .int .u64 0] ∧ okL 15 w' w.heap.size 0) ∧ loL 15 w' (w.heap.size + 1) 0 = [.int .i64 456, .int .i64 123, .int .u64 0, .int .u64 0, .int .i64 0, .int .u64 0, .int .i64 0, .int .i64 0, .int .i64 0, .int .i64 0, .int .i64 0, .int .i64 0, .int .i64 0, .int .i64 0, .int .u64 0] ∧ okL 15 w' (w.heap.size + 1) 0
theorem cutJ {J G : Prop} (h : J → G) (k : J) : G := h k
section
variable {w W w' : World} {g h : Nat} {ln lm : List Hd}
theorem Kn.cells (K : Kn w g h W ln lm) : Kn.S w W := ⟨row_lo 15 K.ra rfl rfl, row_lo 15 K.rb rfl rfl⟩
theorem Kn.turn0 (K : Kn w g h W ln lm) (hb : Below W.heap.size W w') : Kn w g h w' ln lm :=
  let ⟨v, hn, hv⟩ := K.n
  let ⟨u, hm⟩ := K.m
  ⟨⟨v, hn.below hb, hv⟩, ⟨u, hm.below hb⟩, K.b.trans (hb.mono K.b.size), (hb.block _ (block_lt K.ra)).trans K.ra, (hb.block _ (block_lt K.rb)).trans K.rb, K.lo, K.gh, Nat.lt_of_lt_of_le K.hW hb.size⟩
theorem Kn.alloc (K : Kn w g h W ln lm) (o : Obj) : Kn w g h (W.alloc o) ln lm := K.turn0 ((Below.refl _ _).alloc (Nat.le_refl _) o)
theorem Kn.drew (K : Kn w g h W ln lm) : Kn w g h W.drew ln lm := K.turn0 (Below.refl _ _).drew
theorem Kn.tickN (K : Kn w g h W ln lm) {pp : Option Addr} {pn pc : Nat} (picks : List Int) (hp : LS intC 1 W (.slice pp pn pc) picks) {tl st : List _} (ht : Nt.told 2 false picks ln = tl) (hs : Nt.stay 2 false picks ln = st) (hl : ln.length ≤ 10000) (ha : ∀ x ∈ ln, 0 ≤ x.age ∧ x.age ≤ 1000) :
    Calls Try.prog 13 #[.pointer (some ⟨g, 0, none⟩), .slice pp pn pc] W fun e w' => ∃ p n c, e = .returned (.slice p n c) ∧ LS Lt.cells 15 w' (.slice p n c) tl ∧ Kn w g h w' st lm ∧ Turn (· = g) W w' := by
  obtain ⟨v, hn, hv⟩ := K.n
  obtain ⟨u, hm⟩ := K.m
  have hgh := K.gh; have hlo := K.lo; have hhW := K.hW
  refine (ntick_any picks pp pn pc W g g 2 false v ln hn (by omega) hp hl ha (by omega)).mono ?_
  rintro e w' ⟨r, v', rfl, hown, hnn, htu, hv'⟩
  rw [ht] at hown
  rw [hs] at hnn
  obtain ⟨q, c, rfl⟩ := rec_form hown
  refine ⟨q, _, c, rfl, LS.of_own hown Lt.cells_length (by decide), ⟨⟨v', hnn, fun b hb => by have := hv' b hb; omega⟩, ⟨u, hm.turn htu (by omega) (fun b hb => by have := (recs_base hm.2.2.1 hb).1; omega)⟩, Turn.below K.b K.b.size htu (fun i hi => by omega), (htu.block _ (block_lt K.ra) (by omega)).trans K.ra, (htu.block _ (block_lt K.rb) (by omega)).trans K.rb, K.lo, K.gh, Nat.lt_of_lt_of_le K.hW htu.size⟩, htu⟩
theorem Kn.tickM (K : Kn w g h W ln lm) {pp : Option Addr} {pn pc : Nat} (picks : List Int) (hp : LS intC 1 W (.slice pp pn pc) picks) {tl st : List _} (ht : Nt.told 2 true picks lm = tl) (hs : Nt.stay 2 true picks lm = st) (hl : lm.length ≤ 10000) (ha : ∀ x ∈ lm, 0 ≤ x.age ∧ x.age ≤ 1000) :
    Calls Try.prog 13 #[.pointer (some ⟨h, 0, none⟩), .slice pp pn pc] W fun e w' => ∃ p n c, e = .returned (.slice p n c) ∧ LS Lt.cells 15 w' (.slice p n c) tl ∧ Kn w g h w' ln st ∧ Turn (· = h) W w' := by
  obtain ⟨v, hn, hv⟩ := K.n
  obtain ⟨u, hm⟩ := K.m
  have hgh := K.gh; have hlo := K.lo; have hhW := K.hW
  refine (ntick_any picks pp pn pc W h h 2 true u lm hm (by omega) hp hl ha (by omega)).mono ?_
  rintro e w' ⟨r, v', rfl, hown, hnn, htu, hv'⟩
  rw [ht] at hown
  rw [hs] at hnn
  obtain ⟨q, c, rfl⟩ := rec_form hown
  refine ⟨q, _, c, rfl, LS.of_own hown Lt.cells_length (by decide), ⟨⟨v, hn.turn htu (by omega) hv, hv⟩, ⟨v', hnn⟩, Turn.below K.b K.b.size htu (fun i hi => by omega), (htu.block _ (block_lt K.ra) (by omega)).trans K.ra, (htu.block _ (block_lt K.rb) (by omega)).trans K.rb, K.lo, K.gh, Nat.lt_of_lt_of_le K.hW htu.size⟩, htu⟩
theorem rSame_of {l m : List Lt} (bv : Bool) (hbv : bv = true ↔ l = m) {v u : Value} (hv : LS Lt.cells 15 W v l) (hu : LS Lt.cells 15 W u m) :
    Calls Try.prog 26 #[v, u] W fun e w' => e = .returned (.bool bv) ∧ Below W.heap.size W w' := by
  obtain ⟨p, c, rfl⟩ := hv.shape
  obtain ⟨q, d, rfl⟩ := hu.shape
  exact rSameLt_any l m bv hbv p q _ _ c d W hv hu
/-- a list that was laid at the world's end, and how it reads later -/
theorem new_ints {l : List Int} {cs : Array Value} (hc : cs = (encL intC l).toArray) (hl : l.length ≤ 1000) (m : Nat) (hm : m = l.length) (hw : w' = W.alloc (.cells cs 3 (0, 0))) : LS intC 1 w' (.slice (some ⟨W.heap.size, 0, none⟩) m m) l := by
  subst hw; exact rows_new (new_rowW W _ _ rfl) hc (fun _ => rfl) (by decide) hl m hm
theorem new_lts {l : List Lt} {cs : Array Value} (hc : cs = (encL Lt.cells l).toArray) (hl : l.length ≤ 1000) (m : Nat) (hm : m = l.length) (hw : w' = W.alloc (.cells cs 35 (0, 0))) : LS Lt.cells 15 w' (.slice (some ⟨W.heap.size, 0, none⟩) m m) l := by
  subst hw; exact rows_new (new_rowW W _ _ rfl) hc Lt.cells_length (by decide) hl m hm
theorem LS.kept {α : Type} {enc : α → List Value} {n b : Nat} {S : Nat → Prop} {m c : Nat} {l : List α} (h : LS enc n W (.slice (some ⟨b, 0, none⟩) m c) l) (ht : Turn S W w') (hb : ¬ S b) : LS enc n w' (.slice (some ⟨b, 0, none⟩) m c) l :=
  h.turn ht (fun i hi => by injection hi with hi; exact hi ▸ hb)
end
end Go.Proofs.Ytihilifpadpkbaa
