/- Contract: Tick of the net. -/
import Derived.Test.YtihilifpadpkbaaNtD
import Derived.Test.YtihilifpadpkbaaNtG
import Derived.Deep.DeepCutAuto
import Derived.Deep.Cut
import Derived.Deep.CutRange
set_option linter.unusedVariables false
set_option linter.unusedSimpArgs false
namespace Go.Proofs.Ytihilifpadpkbaa
open Go.RowKit

theorem tmod8 (z : Int) : -7 ≤ z.tmod 8 ∧ z.tmod 8 ≤ 7 ∧ z.tmod 8 % 8 = z % 8 := by
  have h1 := Int.tmod_eq_emod (a := z) (b := 8)
  rw [h1]
  split <;> omega
/-- a row of the call's own stays when another one, of another type, is written -/
theorem own_apart {w w' : World} {base e e' n n' m m' : Nat} {v u : Value} {xs ys : List Value} (h : w.ownsRow base e n v m xs) (k : w.ownsRow base e' n' u m' ys) (hg : w.grownBy w' u.ownBlock) (hne : e ≠ e') : w'.ownsRow base e n v m xs := by
  refine h.kept hg ?_
  rcases h.2 with ⟨rfl, _⟩ | ⟨g, cap, cur, rfl, _, hh, _⟩
  · exact .inl rfl
  · rcases k.2 with ⟨rfl, _⟩ | ⟨g', cap', cur', rfl, _, hh', _⟩
    · exact .inr (by simp [Value.ownBlock])
    · refine .inr fun e1 => hne ?_
      simp [Value.ownBlock] at e1
      subst e1
      rw [hh] at hh'
      injection hh' with hh'
      injection hh'
theorem own_monoR {w : World} {base b0 e n m : Nat} {v : Value} {xs : List Value} (h : w.ownsRow base e n v m xs) (h0 : b0 ≤ base) : w.ownsRow b0 e n v m xs := by
  obtain ⟨hl, hor⟩ := h
  refine ⟨hl, ?_⟩
  rcases hor with h | ⟨g, cap, cur, rfl, hg, hx⟩
  · exact .inl h
  · exact .inr ⟨g, cap, cur, rfl, Nat.le_trans h0 hg, hx⟩
/-- three rows of the call's own, each in a block of its own -/
structure Tri (w0 wr : World) (sv cv lv : Value) (S : List Hd) (C L : List Lt) : Prop where
  s : wr.ownsRow w0.heap.size 69 16 sv S.length (encL Hd.cells S)
  c : wr.ownsRow w0.heap.size 35 15 cv C.length (encL Lt.cells C)
  l : wr.ownsRow w0.heap.size 35 15 lv L.length (encL Lt.cells L)
  b : Below w0.heap.size w0 wr
  cl : ∀ b, cv.ownBlock = some b → lv.ownBlock ≠ some b
theorem Tri.below {w0 wr w' : World} {sv cv lv : Value} {S : List Hd} {C L : List Lt} (t : Tri w0 wr sv cv lv S C L) (hb : Below wr.heap.size wr w') : Tri w0 w' sv cv lv S C L :=
  ⟨recs_below t.s hb, recs_below t.c hb, recs_below t.l hb, t.b.trans (hb.mono t.b.size), t.cl⟩
theorem Tri.apps {w0 wr w' : World} {sv cv lv v : Value} {S : List Hd} {C L : List Lt} {x : Hd} (t : Tri w0 wr sv cv lv S C L) (h : w'.ownsRow w0.heap.size 69 16 v (S.length + [x].length) (encL Hd.cells (S ++ [x]))) (hg : wr.grownBy w' sv.ownBlock) : Tri w0 w' v cv lv (S ++ [x]) C L :=
  ⟨by rw [List.length_append]; exact h, own_apart t.c t.s hg (by decide), own_apart t.l t.s hg (by decide), t.b.grown hg t.b.size (fun b hb => (recs_base t.s hb).1), t.cl⟩
theorem kept_ne {w w' : World} {base e n m : Nat} {v u : Value} {xs : List Value} (h : w.ownsRow base e n v m xs) (hg : w.grownBy w' u.ownBlock) (hne : ∀ b, v.ownBlock = some b → u.ownBlock ≠ some b) : w'.ownsRow base e n v m xs := by
  refine h.kept hg ?_
  cases hb : v.ownBlock with
  | none => exact .inl rfl
  | some b => exact .inr (fun e1 => hne b hb e1.symm)
theorem Tri.appc {w0 wr w' : World} {sv cv lv v : Value} {S : List Hd} {C L : List Lt} {x : Lt} (t : Tri w0 wr sv cv lv S C L) (h : w'.ownsRow w0.heap.size 35 15 v (C.length + [x].length) (encL Lt.cells (C ++ [x]))) (hg : wr.grownBy w' cv.ownBlock) (hat : v.ownBlock = cv.ownBlock ∨ v.ownBlock = some wr.heap.size) : Tri w0 w' sv v lv S (C ++ [x]) L :=
  ⟨own_apart t.s t.c hg (by decide), by rw [List.length_append]; exact h, kept_ne t.l hg (fun b hb e => t.cl b e hb), t.b.grown hg t.b.size (fun b hb => (recs_base t.c hb).1), fun b hb e => by
    rcases hat with h1 | h1
    · exact t.cl b (h1 ▸ hb) e
    · rw [h1] at hb; injection hb with hb; have := (recs_base t.l e).2; omega⟩
theorem Tri.appl {w0 wr w' : World} {sv cv lv v : Value} {S : List Hd} {C L : List Lt} {x : Lt} (t : Tri w0 wr sv cv lv S C L) (h : w'.ownsRow w0.heap.size 35 15 v (L.length + [x].length) (encL Lt.cells (L ++ [x]))) (hg : wr.grownBy w' lv.ownBlock) (hat : v.ownBlock = lv.ownBlock ∨ v.ownBlock = some wr.heap.size) : Tri w0 w' sv cv v S C (L ++ [x]) :=
  ⟨own_apart t.s t.l hg (by decide), kept_ne t.c hg (fun b hb e => t.cl b hb e), by rw [List.length_append]; exact h, t.b.grown hg t.b.size (fun b hb => (recs_base t.l hb).1), fun b hb e => by
    rcases hat with h1 | h1
    · exact t.cl b hb (h1 ▸ e)
    · rw [h1] at e; injection e with e; have := (recs_base t.c hb).2; omega⟩

/-- a whole record out of a row -/
theorem row_lo {w : World} {g : Nat} {cs : List Value} {e : TypeId} (n : Nat) (h : w.heap[g]? = some (.cells cs.toArray e (0, 0))) {ds : List Value} (hd : cs.take n = ds) (hn : ds.length = n) : loL n w g 0 = ds ∧ okL n w g 0 :=
  loL_of (fun j v hj => by
    rw [Nat.zero_add, cell_of_row w g j _ _ _ h]
    rw [← hd, List.getElem?_take] at hj
    split at hj
    · simpa using hj
    · cases hj) hn
theorem there_newR {w : World} {zs : List Value} {e : TypeId} {n : Nat} (h : zs.length = n) : (w.alloc (.cells zs.toArray e (0, 0))).there w.heap.size 0 n := fun j hj => by
  have hr := new_rowW w (.cells zs.toArray e (0, 0)) _ rfl
  rw [Nat.zero_add, cell_of_row _ _ j _ _ _ hr]
  refine ⟨by simp; omega, frozen_of_row _ _ j _ _ hr⟩
theorem setCells_newI {w : World} {e : TypeId} : ∀ (cs zs pre : List Value), zs.length = cs.length → (w.alloc (.cells (pre ++ zs).toArray e (0, 0))).setCells w.heap.size pre.length cs = w.alloc (.cells (pre ++ cs).toArray e (0, 0))
  | [], [], pre, _ => rfl
  | c :: cs, z :: zs, pre, h => by
    rw [World.setCells, World.setCell_alloc_new]
    have h1 : (pre ++ z :: zs).toArray.setIfInBounds pre.length c = ((pre ++ [c]) ++ zs).toArray := by simp
    have h2 := setCells_newI (w := w) (e := e) cs zs (pre ++ [c]) (by simpa using h)
    rw [h1]
    simpa using h2
  | [], _ :: _, _, h => by simp at h
  | _ :: _, [], _, h => by simp at h
theorem setCells_new {w : World} {zs cs : List Value} {e : TypeId} (h : zs.length = cs.length) : (w.alloc (.cells zs.toArray e (0, 0))).setCells w.heap.size 0 cs = w.alloc (.cells cs.toArray e (0, 0)) := by
  simpa using setCells_newI (w := w) (e := e) cs zs [] h
attribute [local go_sem ↓] Hd_execLoad Hd_execStore Lt_execLoad
attribute [local go_sem] Hd_load Hd_store Lt_load loL_drew okL_drew

set_option maxRecDepth 10000 in
set_option maxHeartbeats 40000000 in
theorem ntick_any (picks : List Int) (pp : Option Addr) (pn pc : Nat) (w : World) (base g : Nat) (k : Int) (calm : Bool) (v : Value) (all : List Hd) (h : IsN w base g k calm v all) (hk : 0 < k) (hp : LS intC 1 w (.slice pp pn pc) picks) (hall : all.length ≤ 10000) (hage : ∀ x ∈ all, 0 ≤ x.age ∧ x.age ≤ 1000) (hbase : base ≤ w.heap.size) :
    Calls Try.prog 13 #[.pointer (some ⟨g, 0, none⟩), .slice pp pn pc] w fun e w' => ∃ r v', e = .returned r ∧ w'.ownsRow w.heap.size 35 15 r (Nt.told k calm picks all).length (encL Lt.cells (Nt.told k calm picks all)) ∧
      IsN w' base g k calm v' (Nt.stay k calm picks all) ∧ Turn (· = g) w w' ∧ (∀ b, v'.ownBlock = some b → w.heap.size ≤ b) := by
  have HT0 := Lib.hid (nthere_any w base g k calm v all h hk)
  have H := Lib.hid h
  have HPN := Lib.hid hp.length.1
  have hpn := hp.length
  unfold maxLen at hpn
  obtain ⟨-, hpn1, hpn2⟩ := hpn
  have HP := Lib.hid hp
  have HAGE := Lib.hid hage
  have HBASE := Lib.hid hbase
  have hc := fun j => cell_of_row w g j _ _ _ h.2.1
  obtain ⟨m, hm⟩ : ∃ m, all.length = m := ⟨_, rfl⟩
  have HM := Lib.hid hm
  have hown := h.2.2.1
  rw [hm] at hown hall
  obtain ⟨qv, cv0, rfl⟩ := rec_form hown
  clear hown hm h hp hage hbase
  have HLS := Lib.hid (LS.of_own H.out.2.2.1 Hd.cells_length (by decide))
  go_enter Try.func13, Try.ntmps13
  go_wp2_with (go_at_call 27; refine HT0.out.mono ?_; rintro e w' ⟨rfl, rfl⟩)
  clear hc
  go_loopw [5, 6, 7, 19] (fun sv cv lv i wr => ∃ j : Nat, j ≤ m ∧ i = .int .i64 j ∧ Tri w wr sv cv lv (Nt.stay k calm picks (all.take j)) (Nt.came k calm picks (all.take j)) (Nt.late k calm picks (all.take j))) (fun _ _ _ i _ => m - (intOf i).toNat)
  case atStart => exact ⟨0, Nat.zero_le _, rfl, ⟨World.ownsRow_nil _ _ _ _, World.ownsRow_nil _ _ _ _, World.ownsRow_nil _ _ _ _, Below.refl _ _, fun b hb => by cases hb⟩⟩
  case round =>
    obtain ⟨j, hj, rfl, htri⟩ := hrel
    by_cases hlt : j < m
    · obtain ⟨x, hx⟩ : ∃ x, all[j]? = some x := ⟨_, List.getElem?_eq_getElem (by have := HM.out; omega)⟩
      obtain ⟨bb, o, rfl, hbl, hr⟩ := (HLS.out.below htri.b).at hx
      have hag := HAGE.out x (List.mem_of_getElem? hx)
      have hs1 := Nt.stay_snoc (k := k) (calm := calm) (p := picks) hx
      have hc1 := Nt.came_snoc (k := k) (calm := calm) (p := picks) hx
      have hl1 := Nt.late_snoc (k := k) (calm := calm) (p := picks) hx
      have hfd := Nt.fate_bd k calm (x.age + 1) (Nt.pk picks j)
      have hpd := Nt.pk_bd picks j
      unfold Nt.stayB Nt.fateAt Nt.older at hs1
      unfold Nt.comeB Nt.fateAt Nt.earlyB at hc1 hl1
      have hle : (Nt.stay k calm picks (all.take j)).length ≤ 10000 ∧ (Nt.came k calm picks (all.take j)).length ≤ 10000 ∧ (Nt.late k calm picks (all.take j)).length ≤ 10000 := by
        have h1 := Nt.stay_le k calm picks (all.take j)
        have h2 := Nt.came_le k calm picks (all.take j)
        have h3 := Nt.late_le k calm picks (all.take j)
        have h4 : (all.take j).length ≤ all.length := by rw [List.length_take]; omega
        have := HM.out
        omega
      have HFT := Lib.hid (fun W h => nfate_any W base g k calm (.slice (some ⟨bb, o, none⟩) m cv0) all h ⟨x.l, x.age + 1⟩ (Nt.pk picks j) hpd.1 hpd.2)
      have hpk : Hid (∀ z, picks[j]? = some z → Nt.pk picks j = z % 8) := Lib.hid (fun z hz => by unfold Nt.pk; rw [hz])
      have hpk0 : Hid (picks[j]? = none → Nt.pk picks j = 0) := Lib.hid (fun hz => by unfold Nt.pk; rw [hz])
      generalize Nt.stay k calm picks (all.take j) = S at *
      generalize Nt.came k calm picks (all.take j) = C at *
      generalize Nt.late k calm picks (all.take j) = L at *
      have HFN : Hid (∀ z, Nt.fate k calm (x.age + 1) (Nt.pk picks j) = z → Nt.fate k calm (⟨x.l, x.age + 1⟩ : Hd).age (Nt.pk picks j) = z) := Lib.hid (fun z h => h)
      generalize Nt.pk picks j = P at *
      simp only at HFT
      generalize Nt.fate k calm (x.age + 1) P = F at *
      have HFB : Hid (F = 0 ∨ F = 1 ∨ F = 2 ∨ F = 3) := Lib.hid (by omega)
      have HS1 := Lib.hid hs1; have HC1 := Lib.hid hc1; have HL1 := Lib.hid hl1; have HLN := Lib.hid hle; have HTR := Lib.hid htri
      have HS0 : Hid (∀ b, u5.ownBlock = some b → b < wr.heap.size) := Lib.hid (fun b hb => (recs_base htri.s hb).2)
      obtain ⟨f0, f2⟩ := loL_of hr (Hd.cells_length x)
      have f1 : loL 16 wr bb (o + j * 16) = [.int .i64 x.l.f, .int .i64 x.l.t, .int .u64 x.l.n, .int .u64 x.l.a, .int .i64 x.l.k, .int .u64 x.l.tk, .int .i64 x.l.c, .int .i64 x.l.d, .int .i64 x.l.co, .int .i64 x.l.fl, .int .i64 x.l.dy, .int .i64 x.l.va, .int .i64 x.l.st, .int .i64 x.l.ho, .int .u64 x.l.nx, .int .i64 x.age] := f0
      clear f0
      have h1c : ([.int .i64 x.l.f, .int .i64 x.l.t, .int .u64 x.l.n, .int .u64 x.l.a, .int .i64 x.l.k, .int .u64 x.l.tk, .int .i64 x.l.c, .int .i64 x.l.d, .int .i64 x.l.co, .int .i64 x.l.fl, .int .i64 x.l.dy, .int .i64 x.l.va, .int .i64 x.l.st, .int .i64 x.l.ho, .int .u64 x.l.nx, .int .i64 x.age] : List Value).all (·.oneCell') = true := rfl
      have h1n : ([.int .i64 x.l.f, .int .i64 x.l.t, .int .u64 x.l.n, .int .u64 x.l.a, .int .i64 x.l.k, .int .u64 x.l.tk, .int .i64 x.l.c, .int .i64 x.l.d, .int .i64 x.l.co, .int .i64 x.l.fl, .int .i64 x.l.dy, .int .i64 x.l.va, .int .i64 x.l.st, .int .i64 x.l.ho, .int .u64 x.l.nx, .int .i64 x.age] : List Value).length = 16 := rfl
      have HTH : (wr.alloc (.cells [.int .i64 0, .int .i64 0, .int .u64 0, .int .u64 0, .int .i64 0, .int .u64 0, .int .i64 0, .int .i64 0, .int .i64 0, .int .i64 0, .int .i64 0, .int .i64 0, .int .i64 0, .int .i64 0, .int .u64 0, .int .i64 0].toArray 69 (0, 0))).there wr.heap.size 0 16 := there_newR rfl
      have HSN : (wr.alloc (.cells [.int .i64 0, .int .i64 0, .int .u64 0, .int .u64 0, .int .i64 0, .int .u64 0, .int .i64 0, .int .i64 0, .int .i64 0, .int .i64 0, .int .i64 0, .int .i64 0, .int .i64 0, .int .i64 0, .int .u64 0, .int .i64 0].toArray 69 (0, 0))).setCells wr.heap.size 0 [.int .i64 x.l.f, .int .i64 x.l.t, .int .u64 x.l.n, .int .u64 x.l.a, .int .i64 x.l.k, .int .u64 x.l.tk, .int .i64 x.l.c, .int .i64 x.l.d, .int .i64 x.l.co, .int .i64 x.l.fl, .int .i64 x.l.dy, .int .i64 x.l.va, .int .i64 x.l.st, .int .i64 x.l.ho, .int .u64 x.l.nx, .int .i64 x.age] = wr.alloc (.cells [.int .i64 x.l.f, .int .i64 x.l.t, .int .u64 x.l.n, .int .u64 x.l.a, .int .i64 x.l.k, .int .u64 x.l.tk, .int .i64 x.l.c, .int .i64 x.l.d, .int .i64 x.l.co, .int .i64 x.l.fl, .int .i64 x.l.dy, .int .i64 x.l.va, .int .i64 x.l.st, .int .i64 x.l.ho, .int .u64 x.l.nx, .int .i64 x.age].toArray 69 (0, 0)) := setCells_new rfl
      obtain ⟨hp0, hp7⟩ := hpd
      obtain ⟨ha0, ha1⟩ := hag
      clear hs1 hc1 hl1 hle hx hr hfd htri HFN
      go_upto_if 27 with fail
      go_cut [10] (fun pv wx => pv = .int .i64 P ∧ wx = wr.alloc (.cells #[.int .i64 x.l.f, .int .i64 x.l.t, .int .u64 x.l.n, .int .u64 x.l.a, .int .i64 x.l.k, .int .u64 x.l.tk, .int .i64 x.l.c, .int .i64 x.l.d, .int .i64 x.l.co, .int .i64 x.l.fl, .int .i64 x.l.dy, .int .i64 x.l.va, .int .i64 x.l.st, .int .i64 x.l.ho, .int .u64 x.l.nx, .int .i64 x.age] 69 (0, 0)))
      case first =>
        by_cases hjp : j < pn
        · obtain ⟨z, hz⟩ : ∃ z, picks[j]? = some z := ⟨_, List.getElem?_eq_getElem (by have := HPN.out; omega)⟩
          obtain ⟨pb, po, rfl, hpbl, hpr⟩ := (HP.out.below HTR.out.b).at hz
          have hpc : wr.cell? ⟨pb, po + j, none⟩ = some (.int .i64 z) := by have := hpr 0 _ rfl; simpa using this
          obtain ⟨ht1, ht2, ht3⟩ := tmod8 z
          have HZ := Lib.hid ((ht3.trans (hpk.out z hz).symm))
          clear ht3 hz hpr
          generalize hzz : z.tmod 8 = zz at *
          go_wp2_with fail
          all_goals go_meet
          all_goals exact ⟨by have := HZ.out; congr 1; omega, rfl⟩
        · have hz : P = 0 := hpk0.out (List.getElem?_eq_none (by have := HPN.out; omega))
          go_wp2_with fail
          all_goals go_meet
          all_goals exact ⟨by rw [hz], rfl⟩
      case rest =>
        obtain ⟨rfl, rfl⟩ := hcut
        clear hpk hpk0
        go_upto_region 12 with fail
        clear f1 f2 HTH HSN
        obtain ⟨f1, f2⟩ := row_lo 16 (new_rowW wr (.cells #[.int .i64 x.l.f, .int .i64 x.l.t, .int .u64 x.l.n, .int .u64 x.l.a, .int .i64 x.l.k, .int .u64 x.l.tk, .int .i64 x.l.c, .int .i64 x.l.d, .int .i64 x.l.co, .int .i64 x.l.fl, .int .i64 x.l.dy, .int .i64 x.l.va, .int .i64 x.l.st, .int .i64 x.l.ho, .int .u64 x.l.nx, .int .i64 (x.age + 1)] 69 (0, 0)) _ rfl) rfl rfl
        go_cut [42] (fun fv wx => fv = .int .i64 F ∧ Tri w wx u5 u6 u7 S C L ∧ wx.heap[wr.heap.size]? = some (.cells #[.int .i64 x.l.f, .int .i64 x.l.t, .int .u64 x.l.n, .int .u64 x.l.a, .int .i64 x.l.k, .int .u64 x.l.tk, .int .i64 x.l.c, .int .i64 x.l.d, .int .i64 x.l.co, .int .i64 x.l.fl, .int .i64 x.l.dy, .int .i64 x.l.va, .int .i64 x.l.st, .int .i64 x.l.ho, .int .u64 x.l.nx, .int .i64 (x.age + 1)] 69 (0, 0)))
        case first =>
          go_wp2_with fail
          have hal := (Below.refl wr.heap.size wr).alloc (Nat.le_refl _) (.cells #[.int .i64 x.l.f, .int .i64 x.l.t, .int .u64 x.l.n, .int .u64 x.l.a, .int .i64 x.l.k, .int .u64 x.l.tk, .int .i64 x.l.c, .int .i64 x.l.d, .int .i64 x.l.co, .int .i64 x.l.fl, .int .i64 x.l.dy, .int .i64 x.l.va, .int .i64 x.l.st, .int .i64 x.l.ho, .int .u64 x.l.nx, .int .i64 (x.age + 1)] 69 (0, 0))
          refine (HFT.out _ (H.out.below (HTR.out.b.trans (hal.mono HTR.out.b.size)))).mono ?_
          rintro e w1 ⟨rfl, hb1⟩
          have HT := Lib.hid ((HTR.out.below hal).below hb1)
          have HX1 := Lib.hid ((hb1.block wr.heap.size (by simp)).trans (new_rowW wr (.cells #[.int .i64 x.l.f, .int .i64 x.l.t, .int .u64 x.l.n, .int .u64 x.l.a, .int .i64 x.l.k, .int .u64 x.l.tk, .int .i64 x.l.c, .int .i64 x.l.d, .int .i64 x.l.co, .int .i64 x.l.fl, .int .i64 x.l.dy, .int .i64 x.l.va, .int .i64 x.l.st, .int .i64 x.l.ho, .int .u64 x.l.nx, .int .i64 (x.age + 1)] 69 (0, 0)) _ rfl))
          clear hb1
          go_wp2_with fail
          go_meet
          exact ⟨rfl, HT.out, HX1.out⟩
        case rest =>
          obtain ⟨rfl, hct, hcx1⟩ := hcut
          have HT := Lib.hid hct
          have HX1 := Lib.hid hcx1
          generalize wr.heap.size = gx at *
          clear f1 f2
          have hgf : True := trivial
          obtain ⟨f1, f2⟩ := row_lo 16 HX1.out rfl rfl
          obtain ⟨f3, f4⟩ := row_lo 15 HX1.out rfl rfl
          clear hct hcx1 HTR HFT
          rcases HFB.out with rfl | rfl | rfl | rfl
          · by_cases h4 : P < 4
            · have _hz := True.intro
              have HPE : Hid (decide (P < 4) = true) := Lib.hid (by simpa using h4)
              have HSF : Hid (Nt.stay k calm picks (all.take (j + 1)) = S) := Lib.hid (by rw [HS1.out]; simp)
              have HCF : Hid (Nt.came k calm picks (all.take (j + 1)) = C ++ [x.l]) := Lib.hid (by rw [HC1.out]; simp [HPE.out])
              have HLF : Hid (Nt.late k calm picks (all.take (j + 1)) = L) := Lib.hid (by rw [HL1.out]; simp [HPE.out])
              clear HS1 HC1 HL1
              have HTA := Lib.hid (HT.out.below ((Below.refl wc.heap.size wc).alloc (Nat.le_refl _) (.cells #[.int .i64 x.l.f, .int .i64 x.l.t, .int .u64 x.l.n, .int .u64 x.l.a, .int .i64 x.l.k, .int .u64 x.l.tk, .int .i64 x.l.c, .int .i64 x.l.d, .int .i64 x.l.co, .int .i64 x.l.fl, .int .i64 x.l.dy, .int .i64 x.l.va, .int .i64 x.l.st, .int .i64 x.l.ho, .int .u64 x.l.nx] 35 (0, 0))))
              have HNW := Lib.hid (new_rowW wc (.cells #[.int .i64 x.l.f, .int .i64 x.l.t, .int .u64 x.l.n, .int .u64 x.l.a, .int .i64 x.l.k, .int .u64 x.l.tk, .int .i64 x.l.c, .int .i64 x.l.d, .int .i64 x.l.co, .int .i64 x.l.fl, .int .i64 x.l.dy, .int .i64 x.l.va, .int .i64 x.l.st, .int .i64 x.l.ho, .int .u64 x.l.nx] 35 (0, 0)) _ rfl)
              go_wp2_with (at_builtin; refine wpList_append_recs elemLt rfl _ _ rfl w.heap.size _ C.length C rfl HTA.out.c _ [x.l] rfl (row_one (x := x.l) HNW.out rfl Lt.cells_length (by decide)) (by have := HLN.out; show C.length + 1 ≤ _; omega) HTA.out.b.size ?_; intro vn wn hown hg hnn hat; have HT := Lib.hid (HTA.out.appc hown hg hat); have HG := Lib.hid hg; clear hown hg hnn hat)
              clear HTA HNW
              clear f1 f2 f3 f4
              go_wp2
              go_roundw
              case rel => exact ⟨j + 1, by omega, by go_num, by rw [HSF.out, HCF.out, HLF.out]; exact HT.out⟩
              case measure => simp [intOf]; omega
            · have _hz := True.intro
              have HPE : Hid (decide (P < 4) = false) := Lib.hid (by simpa using h4)
              have h4 : 4 ≤ P := by omega
              have HSF : Hid (Nt.stay k calm picks (all.take (j + 1)) = S) := Lib.hid (by rw [HS1.out]; simp)
              have HCF : Hid (Nt.came k calm picks (all.take (j + 1)) = C) := Lib.hid (by rw [HC1.out]; simp [HPE.out])
              have HLF : Hid (Nt.late k calm picks (all.take (j + 1)) = L ++ [x.l]) := Lib.hid (by rw [HL1.out]; simp [HPE.out])
              clear HS1 HC1 HL1
              have HTA := Lib.hid (HT.out.below ((Below.refl wc.heap.size wc).alloc (Nat.le_refl _) (.cells #[.int .i64 x.l.f, .int .i64 x.l.t, .int .u64 x.l.n, .int .u64 x.l.a, .int .i64 x.l.k, .int .u64 x.l.tk, .int .i64 x.l.c, .int .i64 x.l.d, .int .i64 x.l.co, .int .i64 x.l.fl, .int .i64 x.l.dy, .int .i64 x.l.va, .int .i64 x.l.st, .int .i64 x.l.ho, .int .u64 x.l.nx] 35 (0, 0))))
              have HNW := Lib.hid (new_rowW wc (.cells #[.int .i64 x.l.f, .int .i64 x.l.t, .int .u64 x.l.n, .int .u64 x.l.a, .int .i64 x.l.k, .int .u64 x.l.tk, .int .i64 x.l.c, .int .i64 x.l.d, .int .i64 x.l.co, .int .i64 x.l.fl, .int .i64 x.l.dy, .int .i64 x.l.va, .int .i64 x.l.st, .int .i64 x.l.ho, .int .u64 x.l.nx] 35 (0, 0)) _ rfl)
              go_wp2_with (at_builtin; refine wpList_append_recs elemLt rfl _ _ rfl w.heap.size _ L.length L rfl HTA.out.l _ [x.l] rfl (row_one (x := x.l) HNW.out rfl Lt.cells_length (by decide)) (by have := HLN.out; show L.length + 1 ≤ _; omega) HTA.out.b.size ?_; intro vn wn hown hg hnn hat; have HT := Lib.hid (HTA.out.appl hown hg hat); have HG := Lib.hid hg; clear hown hg hnn hat)
              clear HTA HNW
              clear f1 f2 f3 f4
              go_wp2
              go_roundw
              case rel => exact ⟨j + 1, by omega, by go_num, by rw [HSF.out, HCF.out, HLF.out]; exact HT.out⟩
              case measure => simp [intOf]; omega
          · have _hz := True.intro
            have HSF : Hid (Nt.stay k calm picks (all.take (j + 1)) = S ++ [(⟨x.l, x.age + 1⟩ : Hd)]) := Lib.hid (by rw [HS1.out]; simp)
            have HCF : Hid (Nt.came k calm picks (all.take (j + 1)) = C) := Lib.hid (by rw [HC1.out]; simp)
            have HLF : Hid (Nt.late k calm picks (all.take (j + 1)) = L) := Lib.hid (by rw [HL1.out]; simp)
            clear HS1 HC1 HL1
            have HTA := Lib.hid (HT.out.below ((Below.refl wc.heap.size wc).alloc (Nat.le_refl _) (.cells #[.int .i64 x.l.f, .int .i64 x.l.t, .int .u64 x.l.n, .int .u64 x.l.a, .int .i64 x.l.k, .int .u64 x.l.tk, .int .i64 x.l.c, .int .i64 x.l.d, .int .i64 x.l.co, .int .i64 x.l.fl, .int .i64 x.l.dy, .int .i64 x.l.va, .int .i64 x.l.st, .int .i64 x.l.ho, .int .u64 x.l.nx, .int .i64 (x.age + 1)] 69 (0, 0))))
            have HNW := Lib.hid (new_rowW wc (.cells #[.int .i64 x.l.f, .int .i64 x.l.t, .int .u64 x.l.n, .int .u64 x.l.a, .int .i64 x.l.k, .int .u64 x.l.tk, .int .i64 x.l.c, .int .i64 x.l.d, .int .i64 x.l.co, .int .i64 x.l.fl, .int .i64 x.l.dy, .int .i64 x.l.va, .int .i64 x.l.st, .int .i64 x.l.ho, .int .u64 x.l.nx, .int .i64 (x.age + 1)] 69 (0, 0)) _ rfl)
            go_wp2_with (at_builtin; refine wpList_append_recs elemHd rfl _ _ rfl w.heap.size _ S.length S rfl HTA.out.s _ [(⟨x.l, x.age + 1⟩ : Hd)] rfl (row_one (x := (⟨x.l, x.age + 1⟩ : Hd)) HNW.out rfl Hd.cells_length (by decide)) (by have := HLN.out; show S.length + 1 ≤ _; omega) HTA.out.b.size ?_; intro vn wn hown hg hnn hat; have HT := Lib.hid (HTA.out.apps hown hg); have HG := Lib.hid hg; clear hown hg hnn hat)
            clear HTA HNW
            clear f1 f2 f3 f4
            go_wp2
            go_roundw
            case rel => exact ⟨j + 1, by omega, by go_num, by rw [HSF.out, HCF.out, HLF.out]; exact HT.out⟩
            case measure => simp [intOf]; omega
          · by_cases h4 : P < 4
            · have _hz := True.intro
              have HPE : Hid (decide (P < 4) = true) := Lib.hid (by simpa using h4)
              have HSF : Hid (Nt.stay k calm picks (all.take (j + 1)) = S ++ [(⟨x.l, x.age + 1⟩ : Hd)]) := Lib.hid (by rw [HS1.out]; simp)
              have HCF : Hid (Nt.came k calm picks (all.take (j + 1)) = C ++ [x.l]) := Lib.hid (by rw [HC1.out]; simp [HPE.out])
              have HLF : Hid (Nt.late k calm picks (all.take (j + 1)) = L) := Lib.hid (by rw [HL1.out]; simp [HPE.out])
              clear HS1 HC1 HL1
              have HTA := Lib.hid (HT.out.below ((Below.refl wc.heap.size wc).alloc (Nat.le_refl _) (.cells #[.int .i64 x.l.f, .int .i64 x.l.t, .int .u64 x.l.n, .int .u64 x.l.a, .int .i64 x.l.k, .int .u64 x.l.tk, .int .i64 x.l.c, .int .i64 x.l.d, .int .i64 x.l.co, .int .i64 x.l.fl, .int .i64 x.l.dy, .int .i64 x.l.va, .int .i64 x.l.st, .int .i64 x.l.ho, .int .u64 x.l.nx, .int .i64 (x.age + 1)] 69 (0, 0))))
              have HNW := Lib.hid (new_rowW wc (.cells #[.int .i64 x.l.f, .int .i64 x.l.t, .int .u64 x.l.n, .int .u64 x.l.a, .int .i64 x.l.k, .int .u64 x.l.tk, .int .i64 x.l.c, .int .i64 x.l.d, .int .i64 x.l.co, .int .i64 x.l.fl, .int .i64 x.l.dy, .int .i64 x.l.va, .int .i64 x.l.st, .int .i64 x.l.ho, .int .u64 x.l.nx, .int .i64 (x.age + 1)] 69 (0, 0)) _ rfl)
              go_wp2_with (first | (at_builtin; refine wpList_append_recs elemHd rfl _ _ rfl w.heap.size _ S.length S rfl HTA.out.s _ [(⟨x.l, x.age + 1⟩ : Hd)] rfl (row_one (x := (⟨x.l, x.age + 1⟩ : Hd)) HNW.out rfl Hd.cells_length (by decide)) (by have := HLN.out; show S.length + 1 ≤ _; omega) HTA.out.b.size ?_; intro vn wn hown hg hnn hat; have HT := Lib.hid (HTA.out.apps hown hg); have HG := Lib.hid hg; clear hown hg hnn hat; have hrx := (HG.out.block gx (by have := block_lt HX1.out; simp; omega) (fun e => absurd (HS0.out gx e.symm) (by omega))).trans (row_allocS HX1.out (.cells #[.int .i64 x.l.f, .int .i64 x.l.t, .int .u64 x.l.n, .int .u64 x.l.a, .int .i64 x.l.k, .int .u64 x.l.tk, .int .i64 x.l.c, .int .i64 x.l.d, .int .i64 x.l.co, .int .i64 x.l.fl, .int .i64 x.l.dy, .int .i64 x.l.va, .int .i64 x.l.st, .int .i64 x.l.ho, .int .u64 x.l.nx, .int .i64 (x.age + 1)] 69 (0, 0))); obtain ⟨g3, g4⟩ := row_lo 15 hrx rfl rfl; clear hrx; have HTB := Lib.hid (HT.out.below ((Below.refl wn.heap.size wn).alloc (Nat.le_refl _) (.cells #[.int .i64 x.l.f, .int .i64 x.l.t, .int .u64 x.l.n, .int .u64 x.l.a, .int .i64 x.l.k, .int .u64 x.l.tk, .int .i64 x.l.c, .int .i64 x.l.d, .int .i64 x.l.co, .int .i64 x.l.fl, .int .i64 x.l.dy, .int .i64 x.l.va, .int .i64 x.l.st, .int .i64 x.l.ho, .int .u64 x.l.nx] 35 (0, 0)))); have HNB := Lib.hid (new_rowW wn (.cells #[.int .i64 x.l.f, .int .i64 x.l.t, .int .u64 x.l.n, .int .u64 x.l.a, .int .i64 x.l.k, .int .u64 x.l.tk, .int .i64 x.l.c, .int .i64 x.l.d, .int .i64 x.l.co, .int .i64 x.l.fl, .int .i64 x.l.dy, .int .i64 x.l.va, .int .i64 x.l.st, .int .i64 x.l.ho, .int .u64 x.l.nx] 35 (0, 0)) _ rfl)) | (at_builtin; refine wpList_append_recs elemLt rfl _ _ rfl w.heap.size _ C.length C rfl HTB.out.c _ [x.l] rfl (row_one (x := x.l) HNB.out rfl Lt.cells_length (by decide)) (by have := HLN.out; show C.length + 1 ≤ _; omega) HTB.out.b.size ?_; intro vm wm hown hg hnn hat; have HT := Lib.hid (HTB.out.appc hown hg hat); clear hown hg hnn hat))
              clear f1 f2 f3 f4
              go_wp2
              go_roundw
              case rel => exact ⟨j + 1, by omega, by go_num, by rw [HSF.out, HCF.out, HLF.out]; exact HT.out⟩
              case measure => simp [intOf]; omega
            · have _hz := True.intro
              have HPE : Hid (decide (P < 4) = false) := Lib.hid (by simpa using h4)
              have h4 : 4 ≤ P := by omega
              have HSF : Hid (Nt.stay k calm picks (all.take (j + 1)) = S ++ [(⟨x.l, x.age + 1⟩ : Hd)]) := Lib.hid (by rw [HS1.out]; simp)
              have HCF : Hid (Nt.came k calm picks (all.take (j + 1)) = C) := Lib.hid (by rw [HC1.out]; simp [HPE.out])
              have HLF : Hid (Nt.late k calm picks (all.take (j + 1)) = L ++ [x.l]) := Lib.hid (by rw [HL1.out]; simp [HPE.out])
              clear HS1 HC1 HL1
              have HTA := Lib.hid (HT.out.below ((Below.refl wc.heap.size wc).alloc (Nat.le_refl _) (.cells #[.int .i64 x.l.f, .int .i64 x.l.t, .int .u64 x.l.n, .int .u64 x.l.a, .int .i64 x.l.k, .int .u64 x.l.tk, .int .i64 x.l.c, .int .i64 x.l.d, .int .i64 x.l.co, .int .i64 x.l.fl, .int .i64 x.l.dy, .int .i64 x.l.va, .int .i64 x.l.st, .int .i64 x.l.ho, .int .u64 x.l.nx, .int .i64 (x.age + 1)] 69 (0, 0))))
              have HNW := Lib.hid (new_rowW wc (.cells #[.int .i64 x.l.f, .int .i64 x.l.t, .int .u64 x.l.n, .int .u64 x.l.a, .int .i64 x.l.k, .int .u64 x.l.tk, .int .i64 x.l.c, .int .i64 x.l.d, .int .i64 x.l.co, .int .i64 x.l.fl, .int .i64 x.l.dy, .int .i64 x.l.va, .int .i64 x.l.st, .int .i64 x.l.ho, .int .u64 x.l.nx, .int .i64 (x.age + 1)] 69 (0, 0)) _ rfl)
              go_wp2_with (first | (at_builtin; refine wpList_append_recs elemHd rfl _ _ rfl w.heap.size _ S.length S rfl HTA.out.s _ [(⟨x.l, x.age + 1⟩ : Hd)] rfl (row_one (x := (⟨x.l, x.age + 1⟩ : Hd)) HNW.out rfl Hd.cells_length (by decide)) (by have := HLN.out; show S.length + 1 ≤ _; omega) HTA.out.b.size ?_; intro vn wn hown hg hnn hat; have HT := Lib.hid (HTA.out.apps hown hg); have HG := Lib.hid hg; clear hown hg hnn hat; have hrx := (HG.out.block gx (by have := block_lt HX1.out; simp; omega) (fun e => absurd (HS0.out gx e.symm) (by omega))).trans (row_allocS HX1.out (.cells #[.int .i64 x.l.f, .int .i64 x.l.t, .int .u64 x.l.n, .int .u64 x.l.a, .int .i64 x.l.k, .int .u64 x.l.tk, .int .i64 x.l.c, .int .i64 x.l.d, .int .i64 x.l.co, .int .i64 x.l.fl, .int .i64 x.l.dy, .int .i64 x.l.va, .int .i64 x.l.st, .int .i64 x.l.ho, .int .u64 x.l.nx, .int .i64 (x.age + 1)] 69 (0, 0))); obtain ⟨g3, g4⟩ := row_lo 15 hrx rfl rfl; clear hrx; have HTB := Lib.hid (HT.out.below ((Below.refl wn.heap.size wn).alloc (Nat.le_refl _) (.cells #[.int .i64 x.l.f, .int .i64 x.l.t, .int .u64 x.l.n, .int .u64 x.l.a, .int .i64 x.l.k, .int .u64 x.l.tk, .int .i64 x.l.c, .int .i64 x.l.d, .int .i64 x.l.co, .int .i64 x.l.fl, .int .i64 x.l.dy, .int .i64 x.l.va, .int .i64 x.l.st, .int .i64 x.l.ho, .int .u64 x.l.nx] 35 (0, 0)))); have HNB := Lib.hid (new_rowW wn (.cells #[.int .i64 x.l.f, .int .i64 x.l.t, .int .u64 x.l.n, .int .u64 x.l.a, .int .i64 x.l.k, .int .u64 x.l.tk, .int .i64 x.l.c, .int .i64 x.l.d, .int .i64 x.l.co, .int .i64 x.l.fl, .int .i64 x.l.dy, .int .i64 x.l.va, .int .i64 x.l.st, .int .i64 x.l.ho, .int .u64 x.l.nx] 35 (0, 0)) _ rfl)) | (at_builtin; refine wpList_append_recs elemLt rfl _ _ rfl w.heap.size _ L.length L rfl HTB.out.l _ [x.l] rfl (row_one (x := x.l) HNB.out rfl Lt.cells_length (by decide)) (by have := HLN.out; show L.length + 1 ≤ _; omega) HTB.out.b.size ?_; intro vm wm hown hg hnn hat; have HT := Lib.hid (HTB.out.appl hown hg hat); clear hown hg hnn hat))
              clear f1 f2 f3 f4
              go_wp2
              go_roundw
              case rel => exact ⟨j + 1, by omega, by go_num, by rw [HSF.out, HCF.out, HLF.out]; exact HT.out⟩
              case measure => simp [intOf]; omega
          · have _hz := True.intro
            have HSF : Hid (Nt.stay k calm picks (all.take (j + 1)) = S) := Lib.hid (by rw [HS1.out]; simp)
            have HCF : Hid (Nt.came k calm picks (all.take (j + 1)) = C) := Lib.hid (by rw [HC1.out]; simp)
            have HLF : Hid (Nt.late k calm picks (all.take (j + 1)) = L) := Lib.hid (by rw [HL1.out]; simp)
            clear HS1 HC1 HL1
            clear f1 f2 f3 f4
            go_wp2
            go_roundw
            case rel => exact ⟨j + 1, by omega, by go_num, by rw [HSF.out, HCF.out, HLF.out]; exact HT.out⟩
            case measure => simp [intOf]; omega
    ·   obtain rfl : j = m := by omega
        have HTK : Hid (all.take j = all) := Lib.hid (List.take_of_length_le (by have := HM.out; omega))
        rw [HTK.out] at htri
        have HT := Lib.hid htri
        have hr0 := (htri.b.block g (block_lt H.out.2.1)).trans H.out.2.1
        have hcg := fun j => cell_of_row wr g j _ _ _ hr0
        have hfg := fun j => frozen_of_row wr g j _ _ hr0
        have HR0 := Lib.hid hr0
        have HLE := Lib.hid (show (Nt.came k calm picks all).length ≤ 10000 ∧ (Nt.late k calm picks all).length ≤ 10000 from by
          have h1 := Nt.came_le k calm picks all
          have h2 := Nt.late_le k calm picks all
          have := HM.out
          omega)
        obtain ⟨q5, c5, rfl⟩ := rec_form htri.s
        have HGW := Lib.hid (block_lt H.out.2.1)
        have HAP : Hid (∀ b, (Value.slice q5 (Nt.stay k calm picks all).length c5).ownBlock = some b → w.heap.size ≤ b) := Lib.hid (fun b hb => (recs_base htri.s hb).1)
        have HTS : Hid (Turn (· = g) wr (wr.setCell ⟨g, 2, none⟩ (Value.slice q5 (Nt.stay k calm picks all).length c5))) := Lib.hid ((Turn.refl (· = g) wr).setCell rfl _ _)
        have HC2 := Lib.hid (recs_turn HT.out.c HTS.out (fun b hb e => by have h1 := (recs_base HT.out.c hb).1; have h2 := HGW.out; omega))
        have HL2 := Lib.hid ((LS.of_own HT.out.l Lt.cells_length (by decide)).turn HTS.out (fun b hb e => by have h1 := (recs_base HT.out.l hb).1; have h2 := HGW.out; omega))
        have HS2 := Lib.hid (recs_turn HT.out.s HTS.out (fun b hb e => by have h1 := (recs_base HT.out.s hb).1; have h2 := HGW.out; omega))
        have HR2 := Lib.hid (heap_setCell_same wr g 2 _ _ (Value.slice q5 (Nt.stay k calm picks all).length c5) HR0.out)
        have HTU : Hid (Turn (· = g) w (wr.setCell ⟨g, 2, none⟩ (Value.slice q5 (Nt.stay k calm picks all).length c5))) := Lib.hid ((Turn.of_below (HT.out.b)).trans HTS.out)
        have HLS2 := Lib.hid (show (wr.setCell ⟨g, 2, none⟩ (Value.slice q5 (Nt.stay k calm picks all).length c5)).heap.size = wr.heap.size from by simp)
        clear htri hr0
        have HTO : Hid (Nt.told k calm picks all = Nt.came k calm picks all ++ Nt.late k calm picks all) := Lib.hid rfl
        have HST : Hid (Nt.stay k calm picks all = Nt.stay k calm picks all) := Lib.hid rfl
        obtain ⟨S, hS⟩ : ∃ S, Nt.stay k calm picks all = S := ⟨_, rfl⟩
        have HSS := Lib.hid hS
        obtain ⟨TL, hTL⟩ : ∃ S, Nt.told k calm picks all = S := ⟨_, rfl⟩
        have HTL := Lib.hid hTL
        rw [hTL] at HTO
        rw [hS] at HAP HTS HC2 HL2 HS2 HR2 HTU HLS2 HT ⊢
        clear HST
        generalize Nt.came k calm picks all = C at *
        generalize Nt.late k calm picks all = L at *
        clear hS hTL
        obtain ⟨sn, hSL⟩ : ∃ sn, S.length = sn := ⟨_, rfl⟩
        rw [hSL] at HAP HTS HC2 HL2 HS2 HR2 HTU HLS2 HT ⊢
        have HSL := Lib.hid hSL
        clear hSL
        go_wp2_with (at_builtin; refine wpList_append_recs elemLt rfl _ _ rfl w.heap.size _ C.length C rfl HC2.out _ L rfl HL2.out (by have := HLE.out; omega) (by have h1 := HLS2.out; have h2 := HT.out.b.size; omega) ?_; intro vn wn hown hg hnn hat; have HO := Lib.hid hown; have HG := Lib.hid hg; have HA := Lib.hid hat; clear hown hg hnn hat)
        have HTF : Hid (Turn (· = g) w wn) := Lib.hid (HTU.out.grown HG.out (fun i hi e => by have h1 := (recs_base HC2.out e).1; omega))
        have HRF := Lib.hid ((HG.out.block g (by have := HLS2.out; have := block_lt HR0.out; omega) (fun e => by have h1 := (recs_base HC2.out e.symm).1; have h2 := HGW.out; omega)).trans HR2.out)
        have HSF := Lib.hid (own_apart HS2.out HC2.out HG.out (by decide))
        clear hcg hfg
        go_wp2
        go_ret
        refine ⟨vn, _, rfl, by rw [HTL.out, HTO.out, List.length_append]; exact HO.out, ⟨H.out.1, HRF.out, ?_, fun e => by have h1 := HAP.out g e; have h2 := HGW.out; omega⟩, HTF.out, HAP.out⟩
        rw [HSS.out, HSL.out]
        exact own_monoR HSF.out HBASE.out
end Go.Proofs.Ytihilifpadpkbaa
