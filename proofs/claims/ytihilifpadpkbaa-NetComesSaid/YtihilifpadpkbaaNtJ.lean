/- Contract: Tick of the reference's net. -/
import Derived.Test.YtihilifpadpkbaaNtE
import Derived.Test.YtihilifpadpkbaaNtF
import Derived.Deep.DeepCutAuto
import Derived.Deep.Cut
import Derived.Deep.CutRange
set_option linter.unusedVariables false
set_option linter.unusedSimpArgs false
namespace Go.Proofs.Ytihilifpadpkbaa
open Go.RowKit

theorem rj_tmod8 (z : Int) : -7 ≤ z.tmod 8 ∧ z.tmod 8 ≤ 7 ∧ (z.tmod 8 + 8) % 8 = z % 8 := by
  have h1 := Int.tmod_eq_emod (a := z) (b := 8)
  rw [h1]
  split <;> omega
theorem rj_apart {w w' : World} {base e e' n n' m m' : Nat} {v u : Value} {xs ys : List Value} (h : w.ownsRow base e n v m xs) (k : w.ownsRow base e' n' u m' ys) (hg : w.grownBy w' u.ownBlock) (hne : e ≠ e') : w'.ownsRow base e n v m xs := by
  refine h.kept hg ?_
  rcases h.2 with ⟨rfl, _⟩ | ⟨g, cap, cur, rfl, _, hh, _⟩
  · exact .inl rfl
  · rcases k.2 with ⟨rfl, _⟩ | ⟨g', cap', cur', rfl, _, hh', _⟩
    · exact .inr (by simp [Value.ownBlock])
    · refine .inr fun e1 => hne ?_
      simp [Value.ownBlock] at e1
      subst e1
      rw [hh] at hh'
      injection hh' with hh'
      injection hh'
theorem rj_ne {w w' : World} {base e n m : Nat} {v u : Value} {xs : List Value} (h : w.ownsRow base e n v m xs) (hg : w.grownBy w' u.ownBlock) (hne : ∀ b, v.ownBlock = some b → u.ownBlock ≠ some b) : w'.ownsRow base e n v m xs := by
  refine h.kept hg ?_
  cases hb : v.ownBlock with
  | none => exact .inl rfl
  | some b => exact .inr (fun e1 => hne b hb e1.symm)
theorem rj_diff {w : World} {base e e' n n' m m' i : Nat} {v u : Value} {xs ys : List Value} (h : w.ownsRow base e n v m xs) (k : w.ownsRow base e' n' u m' ys) (hne : e ≠ e') (hv : v.ownBlock = some i) (hu : u.ownBlock = some i) : False := by
  rcases h.2 with ⟨rfl, _⟩ | ⟨g, cap, cur, rfl, _, hh, _⟩
  · cases hv
  · rcases k.2 with ⟨rfl, _⟩ | ⟨g', cap', cur', rfl, _, hh', _⟩
    · cases hu
    · simp [Value.ownBlock] at hv hu
      subst hv; subst hu
      rw [hh] at hh'
      injection hh' with hh'
      injection hh' with h1 h2
      exact hne h2
theorem Turn.of_grown {w w' : World} {row : Option Nat} (h : w.grownBy w' row) : Turn (fun i => row = some i) w w' := (Turn.refl _ w).grown h (fun i hi e => e)
/-- four rows of the call's own, each in a block of its own -/
structure Qua (w0 wr : World) (fv sv tv av : Value) (F S W : List Lt) (A : List Int) : Prop where
  f : wr.ownsRow w0.heap.size 35 15 fv F.length (encL Lt.cells F)
  s : wr.ownsRow w0.heap.size 35 15 sv S.length (encL Lt.cells S)
  t : wr.ownsRow w0.heap.size 35 15 tv W.length (encL Lt.cells W)
  a : wr.ownsRow w0.heap.size 3 1 av A.length (encL intC A)
  b : Below w0.heap.size w0 wr
  fs : ∀ b, fv.ownBlock = some b → sv.ownBlock ≠ some b
  ft : ∀ b, fv.ownBlock = some b → tv.ownBlock ≠ some b
  st : ∀ b, sv.ownBlock = some b → tv.ownBlock ≠ some b
section
variable {w0 wr w' : World} {fv sv tv av v : Value} {F S W : List Lt} {A : List Int}
theorem Qua.below (q : Qua w0 wr fv sv tv av F S W A) (hb : Below wr.heap.size wr w') : Qua w0 w' fv sv tv av F S W A :=
  ⟨recs_below q.f hb, recs_below q.s hb, recs_below q.t hb, recs_below q.a hb, q.b.trans (hb.mono q.b.size), q.fs, q.ft, q.st⟩
theorem new_ne {w : World} {base e n m : Nat} {u v p : Value} {xs : List Value} (h : w.ownsRow base e n u m xs) (hat : v.ownBlock = p.ownBlock ∨ v.ownBlock = some w.heap.size) (hp : ∀ b, p.ownBlock = some b → u.ownBlock ≠ some b) : ∀ b, v.ownBlock = some b → u.ownBlock ≠ some b := fun b hb e => by
  rcases hat with h1 | h1
  · exact hp b (h1 ▸ hb) e
  · rw [h1] at hb; injection hb with hb; have := (recs_base h e).2; omega
theorem Qua.appf (q : Qua w0 wr fv sv tv av F S W A) {x : Lt} (h : w'.ownsRow w0.heap.size 35 15 v (F.length + [x].length) (encL Lt.cells (F ++ [x]))) (hg : wr.grownBy w' fv.ownBlock) (hat : v.ownBlock = fv.ownBlock ∨ v.ownBlock = some wr.heap.size) : Qua w0 w' v sv tv av (F ++ [x]) S W A :=
  ⟨by rw [List.length_append]; exact h, rj_ne q.s hg (fun b h1 h2 => q.fs b h2 h1), rj_ne q.t hg (fun b h1 h2 => q.ft b h2 h1), rj_apart q.a q.f hg (by decide), q.b.grown hg q.b.size (fun b hb => (recs_base q.f hb).1), new_ne q.s hat q.fs, new_ne q.t hat q.ft, q.st⟩
theorem Qua.apps (q : Qua w0 wr fv sv tv av F S W A) {x : Lt} (h : w'.ownsRow w0.heap.size 35 15 v (S.length + [x].length) (encL Lt.cells (S ++ [x]))) (hg : wr.grownBy w' sv.ownBlock) (hat : v.ownBlock = sv.ownBlock ∨ v.ownBlock = some wr.heap.size) : Qua w0 w' fv v tv av F (S ++ [x]) W A :=
  ⟨rj_ne q.f hg q.fs, by rw [List.length_append]; exact h, rj_ne q.t hg (fun b h1 h2 => q.st b h2 h1), rj_apart q.a q.s hg (by decide), q.b.grown hg q.b.size (fun b hb => (recs_base q.s hb).1), fun b h1 h2 => new_ne q.f hat (fun b h1 h2 => q.fs b h2 h1) b h2 h1, q.ft, new_ne q.t hat q.st⟩
theorem Qua.appt (q : Qua w0 wr fv sv tv av F S W A) {x : Lt} (h : w'.ownsRow w0.heap.size 35 15 v (W.length + [x].length) (encL Lt.cells (W ++ [x]))) (hg : wr.grownBy w' tv.ownBlock) (hat : v.ownBlock = tv.ownBlock ∨ v.ownBlock = some wr.heap.size) : Qua w0 w' fv sv v av F S (W ++ [x]) A :=
  ⟨rj_ne q.f hg q.ft, rj_ne q.s hg q.st, by rw [List.length_append]; exact h, rj_apart q.a q.t hg (by decide), q.b.grown hg q.b.size (fun b hb => (recs_base q.t hb).1), q.fs, fun b h1 h2 => new_ne q.f hat (fun b h1 h2 => q.ft b h2 h1) b h2 h1, fun b h1 h2 => new_ne q.s hat (fun b h1 h2 => q.st b h2 h1) b h2 h1⟩
theorem Qua.appa (q : Qua w0 wr fv sv tv av F S W A) {x : Int} (h : w'.ownsRow w0.heap.size 3 1 v (A.length + [x].length) (encL intC (A ++ [x]))) (hg : wr.grownBy w' av.ownBlock) : Qua w0 w' fv sv tv v F S W (A ++ [x]) :=
  ⟨rj_apart q.f q.a hg (by decide), rj_apart q.s q.a hg (by decide), rj_apart q.t q.a hg (by decide), by rw [List.length_append]; exact h, q.b.grown hg q.b.size (fun b hb => (recs_base q.a hb).1), q.fs, q.ft, q.st⟩
end
theorem range_below {B : Nat} {w w' : World} (hb : Below B w w') {b o : Nat} {cs : List Value} (h : w.rangeAt b o cs) (hlt : b < B) : w'.rangeAt b o cs := fun j v hj => (hb.cell (p := ⟨b, o + j, none⟩) hlt).trans (h j v hj)
namespace Nt
/-- of a letter of age a: does it come, does it stay -/
def comes (k : Int) (calm : Bool) (a P : Int) : Bool := decide (fate k calm a P = 0) || decide (fate k calm a P = 2)
def stays (k : Int) (calm : Bool) (a P : Int) : Bool := decide (fate k calm a P = 1) || decide (fate k calm a P = 2)
end Nt

attribute [local go_sem ↓] Lt_execLoad
attribute [local go_sem] Lt_load loL_drew okL_drew

set_option maxRecDepth 10000 in
set_option maxHeartbeats 40000000 in
theorem rtick_any (picks : List Int) (pp : Option Addr) (pn pc : Nat) (w : World) (base g : Nat) (k : Int) (calm : Bool) (lv av : Value) (all : List Hd) (h : IsR w base g k calm lv av all) (hp : LS intC 1 w (.slice pp pn pc) picks) (hall : all.length ≤ 10000) (hage : ∀ x ∈ all, 0 ≤ x.age ∧ x.age ≤ 1000) :
    Calls Try.prog 35 #[.pointer (some ⟨g, 0, none⟩), .slice pp pn pc] w fun e w' => ∃ r lv' av', e = .returned r ∧ w'.ownsRow w.heap.size 35 15 r (Nt.told k calm picks all).length (encL Lt.cells (Nt.told k calm picks all)) ∧
      IsR w' base g k calm lv' av' (Nt.stay k calm picks all) ∧ Turn (· = g) w w' ∧ (∀ b, lv'.ownBlock = some b → w.heap.size ≤ b) ∧ (∀ b, av'.ownBlock = some b → w.heap.size ≤ b) := by
  have H := Lib.hid h
  have HPN := Lib.hid hp.length.1
  have hpn := hp.length
  unfold maxLen at hpn
  obtain ⟨-, hpn1, hpn2⟩ := hpn
  have HP := Lib.hid hp
  have HAGE := Lib.hid hage
  have HGW := Lib.hid (block_lt h.row)
  obtain ⟨m, hm⟩ : ∃ m, all.length = m := ⟨_, rfl⟩
  have HM := Lib.hid hm
  obtain ⟨lp, lc, elv⟩ := h.l.shape
  obtain ⟨ap, ac, eav⟩ := h.a.shape
  rw [List.length_map, hm] at elv eav
  subst elv eav
  rw [hm] at hall
  clear hm h hp hage
  go_enter Try.func35, Try.ntmps35
  go_wp2
  go_loopw [5, 6, 7, 8, 9] (fun fv sv tv av i wr => ∃ j : Nat, j ≤ m ∧ i = .int .i64 j ∧ Qua w wr fv sv tv av (Nt.came k calm picks (all.take j)) (Nt.late k calm picks (all.take j)) ((Nt.stay k calm picks (all.take j)).map (·.l)) ((Nt.stay k calm picks (all.take j)).map (·.age))) (fun _ _ _ _ i _ => m - (intOf i).toNat)
  case atStart => exact ⟨0, Nat.zero_le _, rfl, ⟨World.ownsRow_nil _ _ _ _, World.ownsRow_nil _ _ _ _, World.ownsRow_nil _ _ _ _, World.ownsRow_nil _ _ _ _, Below.refl _ _, (fun b hb => by cases hb), (fun b hb => by cases hb), (fun b hb => by cases hb)⟩⟩
  case round =>
    obtain ⟨j, hj, rfl, hqua⟩ := hrel
    have HGR := Lib.hid ((hqua.b.block g HGW.out).trans H.out.row)
    by_cases hlt : j < m
    · obtain ⟨x, hx⟩ : ∃ x, all[j]? = some x := ⟨_, List.getElem?_eq_getElem (by have := HM.out; omega)⟩
      obtain ⟨bb, o, rfl, hbl, hr⟩ := H.out.l.at (i := j) (x := x.l) (by rw [List.getElem?_map, hx]; rfl)
      obtain ⟨ab, ao, rfl, hab, har⟩ := H.out.a.at (i := j) (x := x.age) (by rw [List.getElem?_map, hx]; rfl)
      have hag := HAGE.out x (List.mem_of_getElem? hx)
      have hs1 := Nt.stay_snoc (k := k) (calm := calm) (p := picks) hx
      have hc1 := Nt.came_snoc (k := k) (calm := calm) (p := picks) hx
      have hl1 := Nt.late_snoc (k := k) (calm := calm) (p := picks) hx
      have hpd := Nt.pk_bd picks j
      unfold Nt.stayB Nt.fateAt Nt.older at hs1
      unfold Nt.comeB Nt.fateAt Nt.earlyB at hc1 hl1
      have hle : ((Nt.stay k calm picks (all.take j)).map (·.l)).length ≤ 10000 ∧ ((Nt.stay k calm picks (all.take j)).map (·.age)).length ≤ 10000 ∧ (Nt.came k calm picks (all.take j)).length ≤ 10000 ∧ (Nt.late k calm picks (all.take j)).length ≤ 10000 := by
        have h1 := Nt.stay_le k calm picks (all.take j)
        have h2 := Nt.came_le k calm picks (all.take j)
        have h3 := Nt.late_le k calm picks (all.take j)
        have h4 : (all.take j).length ≤ all.length := by rw [List.length_take]; omega
        have := HM.out
        rw [List.length_map, List.length_map]
        omega
      have hpk : Hid (∀ z, picks[j]? = some z → Nt.pk picks j = z % 8) := Lib.hid (fun z hz => by unfold Nt.pk; rw [hz])
      have hpk0 : Hid (picks[j]? = none → Nt.pk picks j = 0) := Lib.hid (fun hz => by unfold Nt.pk; rw [hz])
      have HWA : Hid ((Nt.stay k calm picks (all.take (j + 1))).map (·.l) = (Nt.stay k calm picks (all.take j)).map (·.l) ++ (if Nt.stays k calm (x.age + 1) (Nt.pk picks j) = true then [x.l] else []) ∧ (Nt.stay k calm picks (all.take (j + 1))).map (·.age) = (Nt.stay k calm picks (all.take j)).map (·.age) ++ (if Nt.stays k calm (x.age + 1) (Nt.pk picks j) = true then [x.age + 1] else [])) := Lib.hid (by
        rw [hs1, List.map_append, List.map_append]
        unfold Nt.stays
        split <;> exact ⟨rfl, rfl⟩)
      have HFA : Hid (Nt.came k calm picks (all.take (j + 1)) = Nt.came k calm picks (all.take j) ++ (if (Nt.comes k calm (x.age + 1) (Nt.pk picks j) && decide (Nt.pk picks j < 4)) = true then [x.l] else [])) := Lib.hid hc1
      have HLA : Hid (Nt.late k calm picks (all.take (j + 1)) = Nt.late k calm picks (all.take j) ++ (if (Nt.comes k calm (x.age + 1) (Nt.pk picks j) && !decide (Nt.pk picks j < 4)) = true then [x.l] else [])) := Lib.hid hl1
      have HLE := Lib.hid hle
      have HQ := Lib.hid hqua
      clear hs1 hc1 hl1 hle
      generalize (Nt.stay k calm picks (all.take j)).map (·.l) = W at *
      generalize (Nt.stay k calm picks (all.take j)).map (·.age) = A at *
      generalize Nt.came k calm picks (all.take j) = F at *
      generalize Nt.late k calm picks (all.take j) = S at *
      generalize Nt.pk picks j = P at *
      obtain ⟨co, hco⟩ : ∃ co, Nt.comes k calm (x.age + 1) P = co := ⟨_, rfl⟩
      obtain ⟨st, hst⟩ : ∃ st, Nt.stays k calm (x.age + 1) P = st := ⟨_, rfl⟩
      rw [hco] at HFA HLA
      rw [hst] at HWA
      have HCO := Lib.hid hco; have HST := Lib.hid hst
      obtain ⟨hp0, hp7⟩ := hpd
      obtain ⟨ha0, ha1⟩ := hag
      have hcg := fun i => cell_of_row wr g i _ _ _ HGR.out
      have hca : wr.cell? ⟨ab, ao + j, none⟩ = some (.int .i64 x.age) := by have := (hqua.b.cell (p := ⟨ab, ao + j * 1 + 0, none⟩) hab).trans (har 0 _ rfl); simpa using this
      have HR := Lib.hid hr
      have HBL := Lib.hid hbl
      clear hx hr har hqua hbl hco hst
      obtain ⟨w0r, hw0⟩ : ∃ z, z = wr.heap.size := ⟨_, rfl⟩
      go_upto_if 26 with fail
      go_cut [10] (fun pv wx => pv = .int .i64 P ∧ wx = wr)
      case first =>
        by_cases hjp : j < pn
        · obtain ⟨z, hz⟩ : ∃ z, picks[j]? = some z := ⟨_, List.getElem?_eq_getElem (by have := HPN.out; omega)⟩
          obtain ⟨pb, po, rfl, hpbl, hpr⟩ := (HP.out.below HQ.out.b).at hz
          have hpc : wr.cell? ⟨pb, po + j, none⟩ = some (.int .i64 z) := by have := hpr 0 _ rfl; simpa using this
          obtain ⟨ht1, ht2, ht3⟩ := rj_tmod8 z
          have HZ := Lib.hid ((ht3.trans (hpk.out z hz).symm))
          clear ht3 hz hpr
          generalize hzz : z.tmod 8 = zz at *
          go_wp2_with fail
          all_goals go_meet
          all_goals exact ⟨by have h1 := HZ.out; first | (congr 1; omega) | (rw [← h1])  | (congr 1), rfl⟩
        · have hz : P = 0 := hpk0.out (List.getElem?_eq_none (by have := HPN.out; omega))
          go_wp2_with fail
          all_goals go_meet
          all_goals exact ⟨by rw [hz], rfl⟩
      case rest =>
        obtain ⟨rfl, rfl⟩ := hcut
        clear hpk hpk0 hw0
        have h4 : P % 4 = 0 ∨ P % 4 = 1 ∨ P % 4 = 2 ∨ P % 4 = 3 := by omega
        have H4 := Lib.hid h4
        clear h4
        go_upto_region 10 with fail
        go_cut [12] (fun cv wx => cv = .bool co ∧ wx = wc)
        case first =>
          rcases H4.out with h3 | h3 | h3 | h3
          · have HC : Hid (co = true) := Lib.hid (by rw [← HCO.out]; simp [Nt.comes, Nt.fate, h3])
            go_wp2_with fail
            all_goals go_meet
            all_goals exact ⟨by rw [HC.out], rfl⟩
          · by_cases hk : k ≤ x.age + 1
            · have HC : Hid (co = true) := Lib.hid (by rw [← HCO.out]; simp [Nt.comes, Nt.fate, h3, hk])
              go_wp2_with fail
              all_goals go_meet
              all_goals exact ⟨by rw [HC.out], rfl⟩
            · have HC : Hid (co = false) := Lib.hid (by rw [← HCO.out]; simp [Nt.comes, Nt.fate, h3, hk])
              have hd : decide (k ≤ x.age + 1) = false := by simpa using hk
              go_wp2_with fail
              all_goals go_meet
              all_goals exact ⟨by rw [HC.out], rfl⟩
          · have HC : Hid (co = true) := Lib.hid (by rw [← HCO.out]; by_cases hk : k ≤ x.age + 1 <;> simp [Nt.comes, Nt.fate, h3, hk])
            go_wp2_with fail
            all_goals go_meet
            all_goals exact ⟨by rw [HC.out], rfl⟩
          · have HC : Hid (co = calm) := Lib.hid (by rw [← HCO.out]; cases calm <;> simp [Nt.comes, Nt.fate, h3])
            cases calm
            · go_wp2_with fail
              all_goals go_meet
              all_goals exact ⟨by rw [HC.out], rfl⟩
            · go_wp2_with fail
              all_goals go_meet
              all_goals exact ⟨by rw [HC.out], rfl⟩
        case rest =>
          obtain ⟨rfl, rfl⟩ := hcut
          go_upto_region 11 with fail
          go_cut [13] (fun cv wx => cv = .bool st ∧ wx = wc)
          case first =>
            rcases H4.out with h3 | h3 | h3 | h3
            · have HC : Hid (st = false) := Lib.hid (by rw [← HST.out]; simp [Nt.stays, Nt.fate, h3])
              go_wp2_with fail
              all_goals go_meet
              all_goals exact ⟨by rw [HC.out], rfl⟩
            · by_cases hk : k ≤ x.age + 1
              · have HC : Hid (st = false) := Lib.hid (by rw [← HST.out]; simp [Nt.stays, Nt.fate, h3, hk])
                have hd : ¬ x.age + 1 < k := by omega
                go_wp2_with fail
                all_goals go_meet
                all_goals exact ⟨by rw [HC.out], rfl⟩
              · have HC : Hid (st = true) := Lib.hid (by rw [← HST.out]; simp [Nt.stays, Nt.fate, h3, hk])
                have hd : x.age + 1 < k := by omega
                go_wp2_with fail
                all_goals go_meet
                all_goals exact ⟨by rw [HC.out], rfl⟩
            · by_cases hk : k ≤ x.age + 1
              · have HC : Hid (st = false) := Lib.hid (by rw [← HST.out]; simp [Nt.stays, Nt.fate, h3, hk])
                have hd : ¬ x.age + 1 < k := by omega
                go_wp2_with fail
                all_goals go_meet
                all_goals exact ⟨by rw [HC.out], rfl⟩
              · have HC : Hid (st = true) := Lib.hid (by rw [← HST.out]; simp [Nt.stays, Nt.fate, h3, hk])
                have hd : x.age + 1 < k := by omega
                go_wp2_with fail
                all_goals go_meet
                all_goals exact ⟨by rw [HC.out], rfl⟩
            · have HC : Hid (st = false) := Lib.hid (by rw [← HST.out]; cases calm <;> simp [Nt.stays, Nt.fate, h3])
              go_wp2_with fail
              all_goals go_meet
              all_goals exact ⟨by rw [HC.out], rfl⟩
          case rest =>
            obtain ⟨rfl, rfl⟩ := hcut
            clear HCO HST H4
            clear hcg
            have hcg := fun i => cell_of_row wc g i _ _ _ HGR.out
            go_upto_region 12 with fail
            go_cut [94] (fun cv wx => cv = .bool (co && decide (P < 4)) ∧ wx = wc)
            case first =>
              cases co
              · go_wp2_with fail
                all_goals go_meet
                all_goals exact ⟨by first | rfl | (simp; done) | (rw [hpd]; rfl) | (simp only [hpd, hpd2]; rfl) | (rw [hpd2, hpd]; rfl), rfl⟩
              · by_cases hp4 : P < 4
                · have hpd : decide (P < 4) = true := by simpa using hp4
                  have hpd2 : decide (4 ≤ P) = false := by simp; omega
                  go_wp2_with fail
                  all_goals go_meet
                  all_goals exact ⟨by first | rfl | (simp; done) | (rw [hpd]; rfl) | (simp only [hpd, hpd2]; rfl) | (rw [hpd2, hpd]; rfl), rfl⟩
                · have hp4' : 4 ≤ P := by omega
                  have hpd : decide (P < 4) = false := by simpa using hp4
                  have hpd2 : decide (4 ≤ P) = true := by simpa using hp4
                  go_wp2_with fail
                  all_goals go_meet
                  all_goals exact ⟨by first | rfl | (simp; done) | (rw [hpd]; rfl) | (simp only [hpd, hpd2]; rfl) | (rw [hpd2, hpd]; rfl), rfl⟩
            case rest =>
              obtain ⟨rfl, rfl⟩ := hcut
              generalize (co && decide (P < 4)) = fe at *
              go_upto_if 94 with fail
              go_cut [5] (fun fv wx => Qua w wx fv u6 u7 u8 (Nt.came k calm picks (all.take (j + 1))) S W A)
              case first =>
                cases fe
                · have HEQ := HFA
                  go_wp2_with fail
                  go_meet
                  exact (by rw [HEQ.out]; simpa using HQ.out)
                · have HEQ := HFA
                  obtain ⟨f0, f2⟩ := loL_of (range_below HQ.out.b HR.out HBL.out) (Lt.cells_length x.l)
                  have f1 : loL 15 wc bb (o + j * 15) = [.int .i64 x.l.f, .int .i64 x.l.t, .int .u64 x.l.n, .int .u64 x.l.a, .int .i64 x.l.k, .int .u64 x.l.tk, .int .i64 x.l.c, .int .i64 x.l.d, .int .i64 x.l.co, .int .i64 x.l.fl, .int .i64 x.l.dy, .int .i64 x.l.va, .int .i64 x.l.st, .int .i64 x.l.ho, .int .u64 x.l.nx] := f0
                  clear f0
                  go_wp2_with (at_builtin; refine wpList_append_recs elemLt rfl _ _ rfl w.heap.size _ F.length F rfl (HQ.out.below ((Below.refl wc.heap.size wc).alloc (Nat.le_refl _) (.cells #[.int .i64 x.l.f, .int .i64 x.l.t, .int .u64 x.l.n, .int .u64 x.l.a, .int .i64 x.l.k, .int .u64 x.l.tk, .int .i64 x.l.c, .int .i64 x.l.d, .int .i64 x.l.co, .int .i64 x.l.fl, .int .i64 x.l.dy, .int .i64 x.l.va, .int .i64 x.l.st, .int .i64 x.l.ho, .int .u64 x.l.nx] 35 (0, 0)))).f _ [x.l] rfl (row_one (enc := Lt.cells) (x := x.l) (new_rowW wc (.cells #[.int .i64 x.l.f, .int .i64 x.l.t, .int .u64 x.l.n, .int .u64 x.l.a, .int .i64 x.l.k, .int .u64 x.l.tk, .int .i64 x.l.c, .int .i64 x.l.d, .int .i64 x.l.co, .int .i64 x.l.fl, .int .i64 x.l.dy, .int .i64 x.l.va, .int .i64 x.l.st, .int .i64 x.l.ho, .int .u64 x.l.nx] 35 (0, 0)) _ rfl) rfl Lt.cells_length (by decide)) (by have := HLE.out; show F.length + 1 ≤ _; omega) (HQ.out.below ((Below.refl wc.heap.size wc).alloc (Nat.le_refl _) (.cells #[.int .i64 x.l.f, .int .i64 x.l.t, .int .u64 x.l.n, .int .u64 x.l.a, .int .i64 x.l.k, .int .u64 x.l.tk, .int .i64 x.l.c, .int .i64 x.l.d, .int .i64 x.l.co, .int .i64 x.l.fl, .int .i64 x.l.dy, .int .i64 x.l.va, .int .i64 x.l.st, .int .i64 x.l.ho, .int .u64 x.l.nx] 35 (0, 0)))).b.size ?_; intro vn1 wn1 hown hg hnn hat; have HTn1 := Lib.hid ((HQ.out.below ((Below.refl wc.heap.size wc).alloc (Nat.le_refl _) (.cells #[.int .i64 x.l.f, .int .i64 x.l.t, .int .u64 x.l.n, .int .u64 x.l.a, .int .i64 x.l.k, .int .u64 x.l.tk, .int .i64 x.l.c, .int .i64 x.l.d, .int .i64 x.l.co, .int .i64 x.l.fl, .int .i64 x.l.dy, .int .i64 x.l.va, .int .i64 x.l.st, .int .i64 x.l.ho, .int .u64 x.l.nx] 35 (0, 0)))).appf hown hg hat); clear hown hg hnn hat; obtain ⟨f1n1, f2n1⟩ := loL_of (range_below HTn1.out.b HR.out HBL.out) (Lt.cells_length x.l); have f1n1 : loL 15 wn1 bb (o + j * 15) = [.int .i64 x.l.f, .int .i64 x.l.t, .int .u64 x.l.n, .int .u64 x.l.a, .int .i64 x.l.k, .int .u64 x.l.tk, .int .i64 x.l.c, .int .i64 x.l.d, .int .i64 x.l.co, .int .i64 x.l.fl, .int .i64 x.l.dy, .int .i64 x.l.va, .int .i64 x.l.st, .int .i64 x.l.ho, .int .u64 x.l.nx] := f1n1; have hcgn1 := fun i => cell_of_row wn1 g i _ _ _ ((HTn1.out.b.block g HGW.out).trans H.out.row))
                  go_meet
                  exact (by rw [HEQ.out]; simpa using HTn1.out)
              case rest =>
                obtain ⟨F1, hF1⟩ : ∃ z, Nt.came k calm picks (all.take (j + 1)) = z := ⟨_, rfl⟩
                rw [hF1] at hcut
                clear HFA
                have HFA := Lib.hid hF1
                clear hF1
                have HQ := Lib.hid hcut
                have HGR := Lib.hid ((hcut.b.block g HGW.out).trans H.out.row)
                have hcg := fun i => cell_of_row wc g i _ _ _ HGR.out
                clear hcut
                go_upto_region 14 with fail
                go_cut [109] (fun cv wx => cv = .bool (co && !decide (P < 4)) ∧ wx = wc)
                case first =>
                  cases co
                  · go_wp2_with fail
                    all_goals go_meet
                    all_goals exact ⟨by first | rfl | (simp; done) | (rw [hpd]; rfl) | (simp only [hpd, hpd2]; rfl) | (rw [hpd2, hpd]; rfl), rfl⟩
                  · by_cases hp4 : P < 4
                    · have hpd : decide (P < 4) = true := by simpa using hp4
                      have hpd2 : decide (4 ≤ P) = false := by simp; omega
                      go_wp2_with fail
                      all_goals go_meet
                      all_goals exact ⟨by first | rfl | (simp; done) | (rw [hpd]; rfl) | (simp only [hpd, hpd2]; rfl) | (rw [hpd2, hpd]; rfl), rfl⟩
                    · have hp4' : 4 ≤ P := by omega
                      have hpd : decide (P < 4) = false := by simpa using hp4
                      have hpd2 : decide (4 ≤ P) = true := by simpa using hp4
                      go_wp2_with fail
                      all_goals go_meet
                      all_goals exact ⟨by first | rfl | (simp; done) | (rw [hpd]; rfl) | (simp only [hpd, hpd2]; rfl) | (rw [hpd2, hpd]; rfl), rfl⟩
                case rest =>
                  obtain ⟨rfl, rfl⟩ := hcut
                  generalize (co && !decide (P < 4)) = se at *
                  go_upto_if 109 with fail
                  go_cut [6] (fun sv wx => Qua w wx u5 sv u7 u8 F1 (Nt.late k calm picks (all.take (j + 1))) W A)
                  case first =>
                    cases se
                    · have HEQ := HLA
                      go_wp2_with fail
                      go_meet
                      exact (by rw [HEQ.out]; simpa using HQ.out)
                    · have HEQ := HLA
                      obtain ⟨f0, f2⟩ := loL_of (range_below HQ.out.b HR.out HBL.out) (Lt.cells_length x.l)
                      have f1 : loL 15 wc bb (o + j * 15) = [.int .i64 x.l.f, .int .i64 x.l.t, .int .u64 x.l.n, .int .u64 x.l.a, .int .i64 x.l.k, .int .u64 x.l.tk, .int .i64 x.l.c, .int .i64 x.l.d, .int .i64 x.l.co, .int .i64 x.l.fl, .int .i64 x.l.dy, .int .i64 x.l.va, .int .i64 x.l.st, .int .i64 x.l.ho, .int .u64 x.l.nx] := f0
                      clear f0
                      go_wp2_with (at_builtin; refine wpList_append_recs elemLt rfl _ _ rfl w.heap.size _ S.length S rfl (HQ.out.below ((Below.refl wc.heap.size wc).alloc (Nat.le_refl _) (.cells #[.int .i64 x.l.f, .int .i64 x.l.t, .int .u64 x.l.n, .int .u64 x.l.a, .int .i64 x.l.k, .int .u64 x.l.tk, .int .i64 x.l.c, .int .i64 x.l.d, .int .i64 x.l.co, .int .i64 x.l.fl, .int .i64 x.l.dy, .int .i64 x.l.va, .int .i64 x.l.st, .int .i64 x.l.ho, .int .u64 x.l.nx] 35 (0, 0)))).s _ [x.l] rfl (row_one (enc := Lt.cells) (x := x.l) (new_rowW wc (.cells #[.int .i64 x.l.f, .int .i64 x.l.t, .int .u64 x.l.n, .int .u64 x.l.a, .int .i64 x.l.k, .int .u64 x.l.tk, .int .i64 x.l.c, .int .i64 x.l.d, .int .i64 x.l.co, .int .i64 x.l.fl, .int .i64 x.l.dy, .int .i64 x.l.va, .int .i64 x.l.st, .int .i64 x.l.ho, .int .u64 x.l.nx] 35 (0, 0)) _ rfl) rfl Lt.cells_length (by decide)) (by have := HLE.out; show S.length + 1 ≤ _; omega) (HQ.out.below ((Below.refl wc.heap.size wc).alloc (Nat.le_refl _) (.cells #[.int .i64 x.l.f, .int .i64 x.l.t, .int .u64 x.l.n, .int .u64 x.l.a, .int .i64 x.l.k, .int .u64 x.l.tk, .int .i64 x.l.c, .int .i64 x.l.d, .int .i64 x.l.co, .int .i64 x.l.fl, .int .i64 x.l.dy, .int .i64 x.l.va, .int .i64 x.l.st, .int .i64 x.l.ho, .int .u64 x.l.nx] 35 (0, 0)))).b.size ?_; intro vn1 wn1 hown hg hnn hat; have HTn1 := Lib.hid ((HQ.out.below ((Below.refl wc.heap.size wc).alloc (Nat.le_refl _) (.cells #[.int .i64 x.l.f, .int .i64 x.l.t, .int .u64 x.l.n, .int .u64 x.l.a, .int .i64 x.l.k, .int .u64 x.l.tk, .int .i64 x.l.c, .int .i64 x.l.d, .int .i64 x.l.co, .int .i64 x.l.fl, .int .i64 x.l.dy, .int .i64 x.l.va, .int .i64 x.l.st, .int .i64 x.l.ho, .int .u64 x.l.nx] 35 (0, 0)))).apps hown hg hat); clear hown hg hnn hat; obtain ⟨f1n1, f2n1⟩ := loL_of (range_below HTn1.out.b HR.out HBL.out) (Lt.cells_length x.l); have f1n1 : loL 15 wn1 bb (o + j * 15) = [.int .i64 x.l.f, .int .i64 x.l.t, .int .u64 x.l.n, .int .u64 x.l.a, .int .i64 x.l.k, .int .u64 x.l.tk, .int .i64 x.l.c, .int .i64 x.l.d, .int .i64 x.l.co, .int .i64 x.l.fl, .int .i64 x.l.dy, .int .i64 x.l.va, .int .i64 x.l.st, .int .i64 x.l.ho, .int .u64 x.l.nx] := f1n1; have hcgn1 := fun i => cell_of_row wn1 g i _ _ _ ((HTn1.out.b.block g HGW.out).trans H.out.row))
                      go_meet
                      exact (by rw [HEQ.out]; simpa using HTn1.out)
                  case rest =>
                    obtain ⟨S1, hF1⟩ : ∃ z, Nt.late k calm picks (all.take (j + 1)) = z := ⟨_, rfl⟩
                    rw [hF1] at hcut
                    clear HLA
                    have HLA := Lib.hid hF1
                    clear hF1
                    have HQ := Lib.hid hcut
                    have HGR := Lib.hid ((hcut.b.block g HGW.out).trans H.out.row)
                    have hcg := fun i => cell_of_row wc g i _ _ _ HGR.out
                    clear hcut
                    cases st
                    · go_wp2_with fail
                      go_roundw
                      case rel => exact ⟨j + 1, by omega, by go_num, by rw [HFA.out, HLA.out, HWA.out.1, HWA.out.2]; simpa using HQ.out⟩
                      case measure => simp [intOf]; omega
                    · obtain ⟨f0, f2⟩ := loL_of (range_below HQ.out.b HR.out HBL.out) (Lt.cells_length x.l)
                      have f1 : loL 15 wc bb (o + j * 15) = [.int .i64 x.l.f, .int .i64 x.l.t, .int .u64 x.l.n, .int .u64 x.l.a, .int .i64 x.l.k, .int .u64 x.l.tk, .int .i64 x.l.c, .int .i64 x.l.d, .int .i64 x.l.co, .int .i64 x.l.fl, .int .i64 x.l.dy, .int .i64 x.l.va, .int .i64 x.l.st, .int .i64 x.l.ho, .int .u64 x.l.nx] := f0
                      clear f0
                      go_upto_region 18 with (at_builtin; refine wpList_append_recs elemLt rfl _ _ rfl w.heap.size _ W.length W rfl (HQ.out.below ((Below.refl wc.heap.size wc).alloc (Nat.le_refl _) (.cells #[.int .i64 x.l.f, .int .i64 x.l.t, .int .u64 x.l.n, .int .u64 x.l.a, .int .i64 x.l.k, .int .u64 x.l.tk, .int .i64 x.l.c, .int .i64 x.l.d, .int .i64 x.l.co, .int .i64 x.l.fl, .int .i64 x.l.dy, .int .i64 x.l.va, .int .i64 x.l.st, .int .i64 x.l.ho, .int .u64 x.l.nx] 35 (0, 0)))).t _ [x.l] rfl (row_one (enc := Lt.cells) (x := x.l) (new_rowW wc (.cells #[.int .i64 x.l.f, .int .i64 x.l.t, .int .u64 x.l.n, .int .u64 x.l.a, .int .i64 x.l.k, .int .u64 x.l.tk, .int .i64 x.l.c, .int .i64 x.l.d, .int .i64 x.l.co, .int .i64 x.l.fl, .int .i64 x.l.dy, .int .i64 x.l.va, .int .i64 x.l.st, .int .i64 x.l.ho, .int .u64 x.l.nx] 35 (0, 0)) _ rfl) rfl Lt.cells_length (by decide)) (by have := HLE.out; show W.length + 1 ≤ _; omega) (HQ.out.below ((Below.refl wc.heap.size wc).alloc (Nat.le_refl _) (.cells #[.int .i64 x.l.f, .int .i64 x.l.t, .int .u64 x.l.n, .int .u64 x.l.a, .int .i64 x.l.k, .int .u64 x.l.tk, .int .i64 x.l.c, .int .i64 x.l.d, .int .i64 x.l.co, .int .i64 x.l.fl, .int .i64 x.l.dy, .int .i64 x.l.va, .int .i64 x.l.st, .int .i64 x.l.ho, .int .u64 x.l.nx] 35 (0, 0)))).b.size ?_; intro vn1 wn1 hown hg hnn hat; have HTn1 := Lib.hid ((HQ.out.below ((Below.refl wc.heap.size wc).alloc (Nat.le_refl _) (.cells #[.int .i64 x.l.f, .int .i64 x.l.t, .int .u64 x.l.n, .int .u64 x.l.a, .int .i64 x.l.k, .int .u64 x.l.tk, .int .i64 x.l.c, .int .i64 x.l.d, .int .i64 x.l.co, .int .i64 x.l.fl, .int .i64 x.l.dy, .int .i64 x.l.va, .int .i64 x.l.st, .int .i64 x.l.ho, .int .u64 x.l.nx] 35 (0, 0)))).appt hown hg hat); clear hown hg hnn hat; obtain ⟨f1n1, f2n1⟩ := loL_of (range_below HTn1.out.b HR.out HBL.out) (Lt.cells_length x.l); have f1n1 : loL 15 wn1 bb (o + j * 15) = [.int .i64 x.l.f, .int .i64 x.l.t, .int .u64 x.l.n, .int .u64 x.l.a, .int .i64 x.l.k, .int .u64 x.l.tk, .int .i64 x.l.c, .int .i64 x.l.d, .int .i64 x.l.co, .int .i64 x.l.fl, .int .i64 x.l.dy, .int .i64 x.l.va, .int .i64 x.l.st, .int .i64 x.l.ho, .int .u64 x.l.nx] := f1n1; have hcgn1 := fun i => cell_of_row wn1 g i _ _ _ ((HTn1.out.b.block g HGW.out).trans H.out.row))
                      go_wp2_with (at_builtin; refine wpList_append_recs elemI rfl _ _ rfl w.heap.size _ A.length A rfl (HTn1.out.below ((Below.refl wn1.heap.size wn1).alloc (Nat.le_refl _) (.cells #[.int .i64 (x.age + 1)] 3 (0, 0)))).a _ [(x.age + 1)] rfl (row_one (enc := intC) (x := (x.age + 1)) (new_rowW wn1 (.cells #[.int .i64 (x.age + 1)] 3 (0, 0)) _ rfl) rfl (fun _ => rfl) (by decide)) (by have := HLE.out; show A.length + 1 ≤ _; omega) (HTn1.out.below ((Below.refl wn1.heap.size wn1).alloc (Nat.le_refl _) (.cells #[.int .i64 (x.age + 1)] 3 (0, 0)))).b.size ?_; intro vn2 wn2 hown hg hnn hat; have HTn2 := Lib.hid ((HTn1.out.below ((Below.refl wn1.heap.size wn1).alloc (Nat.le_refl _) (.cells #[.int .i64 (x.age + 1)] 3 (0, 0)))).appa hown hg); clear hown hg hnn hat)
                      go_roundw
                      case rel => exact ⟨j + 1, by omega, by go_num, by rw [HFA.out, HLA.out, HWA.out.1, HWA.out.2]; simpa using HTn2.out⟩
                      case measure => simp [intOf]; omega
    · obtain rfl : j = m := by omega
      have HTK : Hid (all.take j = all) := Lib.hid (List.take_of_length_le (by have := HM.out; omega))
      rw [HTK.out] at hqua
      have hle : (Nt.came k calm picks all).length ≤ 10000 ∧ (Nt.late k calm picks all).length ≤ 10000 := by
        have h1 := Nt.came_le k calm picks all
        have h2 := Nt.late_le k calm picks all
        have := HM.out
        omega
      have HLE := Lib.hid hle
      have HTO : Hid (Nt.told k calm picks all = Nt.came k calm picks all ++ Nt.late k calm picks all) := Lib.hid rfl
      clear hle
      obtain ⟨TL, hTL⟩ : ∃ z, Nt.told k calm picks all = z := ⟨_, rfl⟩
      obtain ⟨ST, hST⟩ : ∃ z, Nt.stay k calm picks all = z := ⟨_, rfl⟩
      rw [hTL] at HTO
      rw [hST] at hqua
      have HTL := Lib.hid hTL
      have HSS := Lib.hid hST
      generalize Nt.came k calm picks all = F at *
      generalize Nt.late k calm picks all = S at *
      clear hTL hST
      obtain ⟨q7, c7, rfl⟩ := rec_form (by have h := hqua.t; rw [List.length_map] at h; exact h)
      obtain ⟨q8, c8, rfl⟩ := rec_form (by have h := hqua.a; rw [List.length_map] at h; exact h)
      obtain ⟨sn, hsn⟩ : ∃ z, ST.length = z := ⟨_, rfl⟩
      rw [hsn] at hqua ⊢
      have HQ := Lib.hid hqua
      have HLT := Lib.hid (LS.of_own HQ.out.t Lt.cells_length (by decide))
      have HLA := Lib.hid (LS.of_own HQ.out.a (fun _ => rfl) (by decide))
      have HLS := Lib.hid (LS.of_own hqua.s Lt.cells_length (by decide))
      have HBT : Hid (∀ b, (Value.slice q7 sn c7).ownBlock = some b → w.heap.size ≤ b ∧ b < wr.heap.size) := Lib.hid (fun b hb => recs_base HQ.out.t hb)
      have HBA : Hid (∀ b, (Value.slice q8 sn c8).ownBlock = some b → w.heap.size ≤ b ∧ b < wr.heap.size) := Lib.hid (fun b hb => recs_base HQ.out.a hb)
      clear hqua hsn
      have hr0 := HGR.out
      have hcg := fun i => cell_of_row wr g i _ _ _ hr0
      have hfg := fun i => frozen_of_row wr g i _ _ hr0
      have hr1 := heap_setCell_same wr g 2 _ _ (Value.slice q7 sn c7) hr0
      have hcg1 := fun i => cell_of_row _ g i _ _ _ hr1
      have hfg1 := fun i => frozen_of_row _ g i _ _ hr1
      have hr2 := heap_setCell_same _ g 3 _ _ (Value.slice q8 sn c8) hr1
      have HTS : Hid (Turn (· = g) wr ((wr.setCell ⟨g, 2, none⟩ (Value.slice q7 sn c7)).setCell ⟨g, 3, none⟩ (Value.slice q8 sn c8))) := Lib.hid (((Turn.refl (· = g) wr).setCell rfl _ _).setCell rfl _ _)
      have HR2 := Lib.hid hr2
      have HSZ : Hid (((wr.setCell ⟨g, 2, none⟩ (Value.slice q7 sn c7)).setCell ⟨g, 3, none⟩ (Value.slice q8 sn c8)).heap.size = wr.heap.size) := Lib.hid (by simp)
      clear hr0 hr1 hr2
      go_upto_region 21 with fail
      generalize (wr.setCell ⟨g, 2, none⟩ (Value.slice q7 sn c7)).setCell ⟨g, 3, none⟩ (Value.slice q8 sn c8) = w2 at *
      clear hcg hfg hcg1 hfg1
      have HF2 := Lib.hid (recs_turn HQ.out.f HTS.out (fun b hb e => by have h1 := (recs_base HQ.out.f hb).1; have h2 := HGW.out; omega))
      have HS2 := Lib.hid (HLS.out.turn HTS.out (fun b hb e => by have h1 := (recs_base HQ.out.s hb).1; have h2 := HGW.out; omega))
      have HT2 := Lib.hid (HLT.out.turn HTS.out (fun b hb e => by have h1 := (HBT.out b hb).1; have h2 := HGW.out; omega))
      have HA2 := Lib.hid (HLA.out.turn HTS.out (fun b hb e => by have h1 := (HBA.out b hb).1; have h2 := HGW.out; omega))
      have HTW : Hid (Turn (· = g) w w2) := Lib.hid ((Turn.of_below HQ.out.b).trans HTS.out)
      go_wp2_with (at_builtin; refine wpList_append_recs elemLt rfl _ _ rfl w.heap.size _ F.length F rfl HF2.out _ S rfl HS2.out (by have := HLE.out; omega) (by have h1 := HSZ.out; have h2 := HQ.out.b.size; omega) ?_; intro vn wn hown hg hnn hat; have HO := Lib.hid hown; have HG := Lib.hid hg; clear hown hg hnn hat)
      have HTG := Lib.hid (Turn.of_grown HG.out)
      have HTF : Hid (Turn (· = g) w wn) := Lib.hid (HTW.out.grown HG.out (fun i hi e => by have h1 := (recs_base HF2.out e).1; omega))
      go_wp2
      go_ret
      have hgw : g < w2.heap.size := by have h1 := HSZ.out; have h2 := HQ.out.b.size; have h3 := HGW.out; omega
      rw [HTL.out, HSS.out]
      refine ⟨vn, (Value.slice q7 sn c7), (Value.slice q8 sn c8), rfl, by rw [HTO.out, List.length_append]; exact HO.out, ⟨H.out.b, (HG.out.block g hgw (fun e => by have h1 := (recs_base HF2.out e.symm).1; have h2 := HGW.out; omega)).trans HR2.out, ?_, ?_, ?_, ?_⟩, HTF.out, fun b hb => (HBT.out b hb).1, fun b hb => (HBA.out b hb).1⟩
      · exact HT2.out.turn HTG.out (fun b hb e => HQ.out.ft b e hb)
      · refine HA2.out.turn HTG.out (fun b hb e => ?_)
        have h := rj_diff HQ.out.f HQ.out.a (by decide) e hb
        exact h
      · intro i hi; have h1 := HBT.out i hi; have h2 := HSZ.out; have h3 := HG.out.size; have h4 := HGW.out; have h5 := H.out.b; omega
      · intro i hi; have h1 := HBA.out i hi; have h2 := HSZ.out; have h3 := HG.out.size; have h4 := HGW.out; have h5 := H.out.b; omega
end Go.Proofs.Ytihilifpadpkbaa
