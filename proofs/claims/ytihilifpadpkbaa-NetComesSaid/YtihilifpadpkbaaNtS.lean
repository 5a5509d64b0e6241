/- What an act does to a net and to the reference's, side by side: Send, Tick. -/
import Derived.Test.YtihilifpadpkbaaNtO
set_option linter.unusedVariables false
set_option linter.unusedSimpArgs false
namespace Go.Proofs.Ytihilifpadpkbaa
open Go.RowKit Nt

theorem ntk_any (picks : List Int) (pp : Option Addr) (pn pc : Nat) (w : World) (base g : Nat) (k : Int) (calm : Bool) (v : Value) (all : List Hd) (h : IsN w base g k calm v all) (hk : 0 < k) (hp : LS intC 1 w (.slice pp pn pc) picks) (hall : all.length ≤ 10000) (hage : ∀ x ∈ all, 0 ≤ x.age ∧ x.age ≤ 1000) (hbase : base ≤ w.heap.size) :
    Calls Try.prog 13 #[.pointer (some ⟨g, 0, none⟩), .slice pp pn pc] w fun e w' => ∃ q n c v', e = .returned (.slice q n c) ∧ LS Lt.cells 15 w' (.slice q n c) (told k calm picks all) ∧ (∀ b, (Value.slice q n c).ownBlock = some b → w.heap.size ≤ b) ∧ IsN w' base g k calm v' (stay k calm picks all) ∧ (∀ b, v'.ownBlock = some b → w.heap.size ≤ b) ∧ Turn (· = g) w w' :=
  (ntick_any picks pp pn pc w base g k calm v all h hk hp hall hage hbase).mono fun e w' ⟨r, v', he, ho, hn, ht, hv⟩ => by
    obtain ⟨q, c, rfl⟩ := rec_form ho
    exact ⟨q, _, c, v', he, LS.of_own ho Lt.cells_length (by decide), fun b hb => (recs_base ho hb).1, hn, hv, ht⟩
theorem rtk_any (picks : List Int) (pp : Option Addr) (pn pc : Nat) (w : World) (base g : Nat) (k : Int) (calm : Bool) (lv av : Value) (all : List Hd) (h : IsR w base g k calm lv av all) (hp : LS intC 1 w (.slice pp pn pc) picks) (hall : all.length ≤ 10000) (hage : ∀ x ∈ all, 0 ≤ x.age ∧ x.age ≤ 1000) :
    Calls Try.prog 35 #[.pointer (some ⟨g, 0, none⟩), .slice pp pn pc] w fun e w' => ∃ q n c lv' av', e = .returned (.slice q n c) ∧ LS Lt.cells 15 w' (.slice q n c) (told k calm picks all) ∧ (∀ b, (Value.slice q n c).ownBlock = some b → w.heap.size ≤ b) ∧ IsR w' base g k calm lv' av' (stay k calm picks all) ∧ (∀ b, lv'.ownBlock = some b → w.heap.size ≤ b) ∧ (∀ b, av'.ownBlock = some b → w.heap.size ≤ b) ∧ Turn (· = g) w w' :=
  (rtick_any picks pp pn pc w base g k calm lv av all h hp hall hage).mono fun e w' ⟨r, lv', av', he, ho, hn, ht, h1, h2⟩ => by
    obtain ⟨q, c, rfl⟩ := rec_form ho
    exact ⟨q, _, c, lv', av', he, LS.of_own ho Lt.cells_length (by decide), fun b hb => (recs_base ho hb).1, hn, h1, h2, ht⟩
attribute [local go_sem ↓] Lt_execLoad
attribute [local go_sem] Lt_load loL_drew okL_drew

section
variable (w : World) (B g r : Nat) (k : Int) (calm : Bool) (v lv av : Value) (all : List Hd)
set_option maxRecDepth 4000 in
set_option maxHeartbeats 1000000 in
theorem nsend_empty (p : Option Addr) (n cap : Nat) (h : IsN w B g k calm v all) (hk : 0 < k) (hs : LS Lt.cells 15 w (.slice p n cap) ([] : List Lt)) (hl : all.length ≤ 10000) :
    Calls Try.prog 11 #[.pointer (some ⟨g, 0, none⟩), .slice p n cap] w fun e w' => e = .returned (.int .i64 0) ∧ Below w.heap.size w w' := by
  have HT := Lib.hid (nthere_any w B g k calm v all h hk)
  have HH := Lib.hid (hasL_any [] (fun x => !x.may) false (by simp) p n cap w hs (fun x hx W _ => by cases hx))
  have hn := hs.length.1
  simp only [List.length_nil] at hn
  subst hn
  have HM := Lib.hid h.2.1
  obtain ⟨m, hm⟩ : ∃ m, all.length = m := ⟨_, rfl⟩
  have hown := h.2.2.1
  rw [hm] at hown hl
  obtain ⟨qv, cv, rfl⟩ := rec_form hown
  clear h hs hown hm
  go_enter Try.func11, Try.ntmps11
  go_wp2_with (first | (go_at_call 27; refine HT.out.mono ?_; rintro e w' ⟨rfl, rfl⟩) | (go_at_call 28; refine HH.out.mono ?_; rintro e w1 ⟨rfl, hb1⟩; have HBW := Lib.hid hb1; have hc := fun j => cell_of_row w1 g j _ _ _ ((hb1.block g (block_lt HM.out)).trans HM.out); clear hb1))
  go_loopw [26] (fun i wr => i = .int .i64 0 ∧ wr = w1) (fun _ _ => 0)
  case atStart => exact ⟨rfl, rfl⟩
  case round =>
    obtain ⟨rfl, rfl⟩ := hrel
    clear hc
    go_wp2
    go_ret
    exact ⟨rfl, HBW.out⟩

set_option maxRecDepth 4000 in
set_option maxHeartbeats 2000000 in
theorem doSend0_any (T : Two w B g r k calm v lv av all) (hk : 1 ≤ k) (hk2 : k ≤ 64) (a : Ac) (ha : ∀ x ∈ a.ls, x.fit) (p1 : Option Addr) (n1 c1 : Nat) (p2 : Option Addr) (n2 c2 : Nat) (hl : LS Lt.cells 15 w (.slice p1 n1 c1) a.ls) (hp : LS intC 1 w (.slice p2 n2 c2) a.ps)
    (bl : a.ls ≠ [] → ∀ b, (Value.slice p1 n1 c1).ownBlock = some b → b < B) (bp : a.ps ≠ [] → ∀ b, (Value.slice p2 n2 c2).ownBlock = some b → b < B) (hB : B ≤ w.heap.size) (hln : all.length ≤ 2000) (hag : ∀ x ∈ all, 0 ≤ x.age ∧ x.age < k) (hal : a.ls.length ≤ 20) (h1 : a.kind = 1) (h0 : a.ls = []) :
    Calls Try.prog 17 #[.pointer (some ⟨g, 0, none⟩), .pointer (some ⟨r, 0, none⟩), .agg #[.int .i64 a.kind, .slice p1 n1 c1, .slice p2 n2 c2, .bool a.is]] w fun e w' => e = .returned (.bool true) ∧ Done w B g r k v lv av (Nt.step k (calm, all) a) w' := by
  have HX := Lib.hid (new_rowW w (.cells #[.int .i64 1, .slice p1 n1 c1, .slice p2 n2 c2, .bool a.is] 53 (0, 0)) _ rfl)
  have hcx := fun j => cell_of_row _ w.heap.size j _ _ _ HX.out
  have HT := Lib.hid (T.below ((Below.refl w.heap.size w).alloc (Nat.le_refl _) (.cells #[.int .i64 1, .slice p1 n1 c1, .slice p2 n2 c2, .bool a.is] 53 (0, 0))))
  have HTA := Lib.hid ((Turn.refl (Fo g r v) w).alloc (.cells #[.int .i64 1, .slice p1 n1 c1, .slice p2 n2 c2, .bool a.is] 53 (0, 0)))
  rw [h0] at hl
  have HLS := Lib.hid (hl.alloc (.cells #[.int .i64 1, .slice p1 n1 c1, .slice p2 n2 c2, .bool a.is] 53 (0, 0)))
  have hn := hl.length.1
  simp only [List.length_nil] at hn
  subst hn
  have hk0 : 0 < k := by omega
  have HS : Hid (Nt.step k (calm, all) a = (calm, all)) := Lib.hid (by unfold Nt.step; rw [if_pos h1, h0]; simp)
  rw [h1]
  clear T ha hl hp bl bp hag hal
  go_enter Try.func17, Try.ntmps17
  go_wp2_with fail
  generalize (w.alloc (.cells #[.int .i64 1, .slice p1 0 c1, .slice p2 n2 c2, .bool a.is] 53 (0, 0))) = w0 at *
  refine (nsend_empty w0 B g k calm v all p1 0 c1 HT.out.nn hk0 HLS.out (by omega)).mono ?_
  rintro e w1 ⟨rfl, hb1⟩
  have HX1 := Lib.hid ((hb1.block _ (block_lt HX.out)).trans HX.out)
  have HLS1 := Lib.hid (HLS.out.below hb1)
  have HT1 := Lib.hid (HT.out.below hb1)
  have HTA1 := Lib.hid (HTA.out.trans (.of_below hb1))
  have hc1 := fun j => cell_of_row _ w.heap.size j _ _ _ HX1.out
  clear hcx hb1
  go_wp2_with fail
  refine (lawmay_any [] (fun x hx => by cases hx) true (by simp) p1 0 c1 w1 HLS1.out).mono ?_
  rintro e w2 ⟨rfl, hb2⟩
  have HX2 := Lib.hid ((hb2.block _ (block_lt HX1.out)).trans HX1.out)
  have HT2 := Lib.hid (HT1.out.below hb2)
  have HTA2 := Lib.hid (HTA1.out.trans (.of_below hb2))
  have hc2 := fun j => cell_of_row _ w.heap.size j _ _ _ HX2.out
  clear hc1 hb2
  go_wp2_with fail
  go_loopw [8] (fun i wr => i = .int .i64 0 ∧ wr = w2) (fun _ _ => 0)
  case atStart => exact ⟨rfl, rfl⟩
  case round =>
    obtain ⟨rfl, rfl⟩ := hrel
    go_wp2
    go_ret
    rw [HS.out]
    exact ⟨rfl, ⟨⟨v, lv, av, HT2.out, fun b hb => .inl hb, fun b hb => .inl hb, fun b hb => .inl hb⟩, HTA2.out⟩⟩

set_option maxRecDepth 4000 in
set_option maxHeartbeats 4000000 in
theorem doSend_any (T : Two w B g r k calm v lv av all) (hk : 1 ≤ k) (hk2 : k ≤ 64) (a : Ac) (ha : ∀ x ∈ a.ls, x.fit) (p1 : Option Addr) (n1 c1 : Nat) (p2 : Option Addr) (n2 c2 : Nat) (hl : LS Lt.cells 15 w (.slice p1 n1 c1) a.ls) (hp : LS intC 1 w (.slice p2 n2 c2) a.ps)
    (bl : a.ls ≠ [] → ∀ b, (Value.slice p1 n1 c1).ownBlock = some b → b < B) (bp : a.ps ≠ [] → ∀ b, (Value.slice p2 n2 c2).ownBlock = some b → b < B) (hB : B ≤ w.heap.size) (hln : all.length ≤ 2000) (hag : ∀ x ∈ all, 0 ≤ x.age ∧ x.age < k) (hal : a.ls.length ≤ 20) (h1 : a.kind = 1) (hne : a.ls ≠ []) :
    Calls Try.prog 17 #[.pointer (some ⟨g, 0, none⟩), .pointer (some ⟨r, 0, none⟩), .agg #[.int .i64 a.kind, .slice p1 n1 c1, .slice p2 n2 c2, .bool a.is]] w fun e w' => e = .returned (.bool true) ∧ Done w B g r k v lv av (Nt.step k (calm, all) a) w' := by
  have bl := bl hne
  have HX := Lib.hid (new_rowW w (.cells #[.int .i64 1, .slice p1 n1 c1, .slice p2 n2 c2, .bool a.is] 53 (0, 0)) _ rfl)
  have hcx := fun j => cell_of_row _ w.heap.size j _ _ _ HX.out
  have HT := Lib.hid (T.below ((Below.refl w.heap.size w).alloc (Nat.le_refl _) (.cells #[.int .i64 1, .slice p1 n1 c1, .slice p2 n2 c2, .bool a.is] 53 (0, 0))))
  have HTA := Lib.hid ((Turn.refl (Fo g r v) w).alloc (.cells #[.int .i64 1, .slice p1 n1 c1, .slice p2 n2 c2, .bool a.is] 53 (0, 0)))
  have HLS := Lib.hid (hl.alloc (.cells #[.int .i64 1, .slice p1 n1 c1, .slice p2 n2 c2, .bool a.is] 53 (0, 0)))
  have HGW := Lib.hid (show g < w.heap.size ∧ r < w.heap.size ∧ (∀ b, v.ownBlock = some b → b < w.heap.size) ∧ B ≤ g ∧ B ≤ r from ⟨block_lt T.nn.2.1, block_lt T.rr.row, fun b hb => (recs_base T.nn.2.2.1 hb).2, T.nn.1, T.rr.b⟩)
  have HLN := Lib.hid hl.length.1
  have hn1 := hl.length.2.1
  have hn2 := hl.length.2.2
  unfold maxLen at hn2
  have HA := Lib.hid ha
  have HBL := Lib.hid bl
  have HAL := Lib.hid (And.intro hln hal)
  have hk0 : 0 < k := by omega
  obtain ⟨q, hq⟩ : ∃ q, a.ls.all (·.may) = q := ⟨_, rfl⟩
  have HS : Hid (Nt.step k (calm, all) a = (calm, if q = true then all ++ a.ls.map h0 else all)) := Lib.hid (by unfold Nt.step; rw [if_pos h1, hq])
  have HQ := Lib.hid hq
  have hW0 : w.heap.size < (w.alloc (.cells #[.int .i64 1, .slice p1 n1 c1, .slice p2 n2 c2, .bool a.is] 53 (0, 0))).heap.size := by simp
  have HW0 := Lib.hid hW0
  rw [h1]
  clear T ha hl hp bl bp hag hq hW0 hln hal
  cases q
  · have HBAD : Hid (∃ x ∈ a.ls, x.may = false) := Lib.hid (by have := HQ.out; simpa [List.all_eq_false] using this)
    go_enter Try.func17, Try.ntmps17
    go_wp2_with fail
    generalize w.alloc (.cells #[.int .i64 1, .slice p1 n1 c1, .slice p2 n2 c2, .bool a.is] 53 (0, 0)) = w0 at *
    refine (nsend_bad a.ls HA.out p1 n1 c1 w0 B g k calm v all HT.out.nn hk0 HLS.out HBAD.out).mono ?_
    rintro e w1 ⟨rfl, hb1⟩
    have HX1 := Lib.hid ((hb1.block _ (block_lt HX.out)).trans HX.out)
    have HLS1 := Lib.hid (HLS.out.below hb1)
    have HT1 := Lib.hid (HT.out.below hb1)
    have HTA1 := Lib.hid (HTA.out.trans (.of_below hb1))
    have hc1 := fun j => cell_of_row _ w.heap.size j _ _ _ HX1.out
    clear hcx hb1
    go_wp2_with fail
    refine (lawmay_any a.ls HA.out false (by simp only [Bool.false_eq_true, false_iff]; intro h; obtain ⟨x, hx, h1⟩ := HBAD.out; rw [h x hx] at h1; cases h1) p1 n1 c1 w1 HLS1.out).mono ?_
    rintro e w2 ⟨rfl, hb2⟩
    have HT2 := Lib.hid (HT1.out.below hb2)
    have HTA2 := Lib.hid (HTA1.out.trans (.of_below hb2))
    clear hc1 hb2
    go_wp2
    go_ret
    rw [HS.out]
    exact ⟨rfl, ⟨⟨v, lv, av, HT2.out, fun b hb => .inl hb, fun b hb => .inl hb, fun b hb => .inl hb⟩, HTA2.out⟩⟩
  · have HOK : Hid (∀ x ∈ a.ls, x.may = true) := Lib.hid (by have := HQ.out; simpa [List.all_eq_true] using this)
    go_enter Try.func17, Try.ntmps17
    go_wp2_with fail
    generalize w.alloc (.cells #[.int .i64 1, .slice p1 n1 c1, .slice p2 n2 c2, .bool a.is] 53 (0, 0)) = w0 at *
    refine (nsend_ok a.ls HA.out p1 n1 c1 w0 B g k calm v all HT.out.nn hk0 HLS.out HOK.out (by have := HAL.out; omega) (by have := HW0.out; omega) (fun b hb hf => by
      have h1 := HBL.out b hb
      rcases hf with h | h
      · have := HGW.out.2.2.2.1; omega
      · have := (recs_base HT.out.nn.2.2.1 h).1; omega)).mono ?_
    rintro e w1 ⟨rfl, v1, hn, ht, hv⟩
    have HN1 := Lib.hid hn
    have HV1 : Hid (∀ b, v1.ownBlock = some b → (v.ownBlock = some b ∨ w0.heap.size ≤ b) ∧ b < w1.heap.size) := Lib.hid (fun b hb => ⟨by
      rcases hv with h | ⟨c, h, hc⟩
      · exact .inl (h ▸ hb)
      · rw [h] at hb; injection hb with hb; exact .inr (by omega), (recs_base hn.2.2.1 hb).2⟩)
    have HR1 := Lib.hid (HT.out.rr.turn ht (fun e => by rcases e with e | e; exact HT.out.ne e.symm; exact HT.out.vr e) (fun b hb e => by rcases e with e | e; exact (HT.out.lg b hb).1 e; exact (HT.out.lg b hb).2 e) (fun b hb e => by rcases e with e | e; exact (HT.out.ag b hb).1 e; exact (HT.out.ag b hb).2 e))
    have HX1 := Lib.hid ((ht.block _ (block_lt HX.out) (fun e => by
      rcases e with e | e
      · have := HGW.out.1; omega
      · have := HGW.out.2.2.1 _ e; omega)).trans HX.out)
    have HFB : Hid (∀ i, Ft g v i → B ≤ i) := Lib.hid (fun i e => by
      rcases e with e | e
      · have := HGW.out.2.2.2.1; omega
      · exact (recs_base HT.out.nn.2.2.1 e).1)
    have HLS1 := Lib.hid (HLS.out.turn ht (fun b hb e => by have h1 := HBL.out b hb; have h2 := HFB.out b e; omega))
    have HTA1 := Lib.hid (HTA.out.trans (ht.mono (fun i _ e => by rcases e with e | e; exact .inl e; exact .inr (.inr e))))
    have HSZ1 := Lib.hid ht.size
    have hc1 := fun j => cell_of_row _ w.heap.size j _ _ _ HX1.out
    clear hcx hn ht hv
    go_wp2_with fail
    refine (lawmay_any a.ls HA.out true (by simpa using HOK.out) p1 n1 c1 w1 HLS1.out).mono ?_
    rintro e w2 ⟨rfl, hb2⟩
    have HN2 := Lib.hid (HN1.out.below hb2)
    have HR2 := Lib.hid (HR1.out.below hb2)
    have HX2 := Lib.hid ((hb2.block _ (block_lt HX1.out)).trans HX1.out)
    have HLS2 := Lib.hid (HLS1.out.below hb2)
    have HTA2 := Lib.hid (HTA1.out.trans (.of_below hb2))
    have HSZ2 := Lib.hid hb2.size
    clear hc1 hb2
    go_wp2_with fail
    go_loopw [8] (fun i wr => ∃ j lv' av', j ≤ n1 ∧ i = .int .i64 ((j : Nat) : Int) ∧ Turn (· = r) w2 wr ∧ IsR wr B r k calm lv' av' (all ++ (a.ls.take j).map h0) ∧ (∀ b, lv'.ownBlock = some b → lv.ownBlock = some b ∨ w2.heap.size ≤ b) ∧ (∀ b, av'.ownBlock = some b → av.ownBlock = some b ∨ w2.heap.size ≤ b)) (fun i _ => n1 - (intOf i).toNat)
    case atStart => exact ⟨0, lv, av, Nat.zero_le _, rfl, Turn.refl _ _, by rw [List.take_zero, List.map_nil, List.append_nil]; exact HR2.out, fun b hb => .inl hb, fun b hb => .inl hb⟩
    case round =>
      obtain ⟨j, lv', av', hj, rfl, htu, hr, hlb, hab⟩ := hrel
      have HTU := Lib.hid htu; have HRJ := Lib.hid hr; have HLB := Lib.hid hlb; have HAB := Lib.hid hab
      have hc2 := fun i => cell_of_row _ w.heap.size i _ _ _ ((htu.block _ (block_lt HX2.out) (by have := HGW.out.2.1; omega)).trans HX2.out)
      have hls := HLS2.out.turn htu (fun b hb e => by have h1 := HBL.out b hb; have h2 := HGW.out.2.2.2.2; omega)
      have hsz := htu.size
      have HSZ := Lib.hid hsz
      clear htu hr hlb hab hsz
      by_cases hlt : j < n1
      · obtain ⟨x, hx⟩ : ∃ x, a.ls[j]? = some x := ⟨_, List.getElem?_eq_getElem (by have := HLN.out; omega)⟩
        obtain ⟨bb, o, rfl, hbl, hr⟩ := hls.at hx
        obtain ⟨f0, f2⟩ := loL_of hr (Lt.cells_length x)
        have f1 : loL 15 wr bb (o + j * 15) = [.int .i64 x.f, .int .i64 x.t, .int .u64 x.n, .int .u64 x.a, .int .i64 x.k, .int .u64 x.tk, .int .i64 x.c, .int .i64 x.d, .int .i64 x.co, .int .i64 x.fl, .int .i64 x.dy, .int .i64 x.va, .int .i64 x.st, .int .i64 x.ho, .int .u64 x.nx] := f0
        have HTK : Hid (all ++ (a.ls.take (j + 1)).map h0 = (all ++ (a.ls.take j).map h0) ++ [h0 x]) := Lib.hid (by rw [h0_take hx, List.append_assoc])
        have HLE : Hid ((all ++ (a.ls.take j).map h0).length ≤ 20000) := Lib.hid (by rw [List.length_append, List.length_map, List.length_take]; have := HAL.out; omega)
        clear f0 hx hls hr
        go_wp2_with fail
        refine (rsend_any x wr B r k calm lv' av' _ HRJ.out HLE.out).mono ?_
        rintro e w3 ⟨rfl, lv3, av3, hr3, ht3, h5, h6⟩
        have HR3 := Lib.hid hr3
        have HT3 := Lib.hid (HTU.out.trans ht3)
        have H5 := Lib.hid (And.intro h5 h6)
        clear hr3 ht3 h5 h6 f1 f2 hc2
        go_wp2_with fail
        go_roundw
        case rel => exact ⟨j + 1, lv3, av3, by omega, by go_num, HT3.out, by rw [HTK.out]; exact HR3.out, fun b hb => .inr (by have h1 := H5.out.1 b hb; have h2 := HSZ.out; omega), fun b hb => .inr (by have h1 := H5.out.2 b hb; have h2 := HSZ.out; omega)⟩
        case measure => simp [intOf]; omega
      · obtain rfl : j = n1 := by omega
        have HTK : Hid (a.ls.take j = a.ls) := Lib.hid (List.take_of_length_le (by have := HLN.out; omega))
        rw [HTK.out] at HRJ
        clear hls
        go_wp2
        go_ret
        rw [HS.out]
        have hne : ∀ b, v1.ownBlock = some b → b ≠ r := fun b hb e => by
          rcases (HV1.out b hb).1 with h | h
          · exact HT.out.vr (e ▸ h)
          · have h1 := HGW.out.2.1; have h2 := HW0.out; omega
        refine ⟨rfl, ⟨⟨v1, lv', av', ⟨HN2.out.turn HTU.out HT.out.ne hne, HRJ.out, HT.out.ne, fun e => hne r e rfl, fun i hi => ?_, fun i hi => ?_⟩, fun b hb => by
          rcases (HV1.out b hb).1 with h | h
          · exact .inl h
          · exact .inr (by have := HW0.out; omega), fun b hb => (HLB.out b hb).imp id (fun h => by have h1 := HSZ1.out; have h2 := HSZ2.out; have h3 := HW0.out; omega), fun b hb => (HAB.out b hb).imp id (fun h => by have h1 := HSZ1.out; have h2 := HSZ2.out; have h3 := HW0.out; omega)⟩, HTA2.out.trans (HTU.out.mono (fun i _ e => .inr (.inl e)))⟩⟩
        · rcases HLB.out i hi with h | h
          · refine ⟨(HT.out.lg i h).1, fun e => ?_⟩
            rcases (HV1.out i e).1 with h2 | h2
            · exact (HT.out.lg i h).2 h2
            · have := (HT.out.rr.lg i h).2.1; omega
          · exact ⟨by have h1 := HSZ1.out; have h2 := HSZ2.out; have h3 := HW0.out; have h4 := HGW.out.1; omega, fun e => by have h1 := (HV1.out i e).2; have h2 := HSZ2.out; omega⟩
        · rcases HAB.out i hi with h | h
          · refine ⟨(HT.out.ag i h).1, fun e => ?_⟩
            rcases (HV1.out i e).1 with h2 | h2
            · exact (HT.out.ag i h).2 h2
            · have := (HT.out.rr.ag i h).2.1; omega
          · exact ⟨by have h1 := HSZ1.out; have h2 := HSZ2.out; have h3 := HW0.out; have h4 := HGW.out.1; omega, fun e => by have h1 := (HV1.out i e).2; have h2 := HSZ2.out; omega⟩
end
end Go.Proofs.Ytihilifpadpkbaa
