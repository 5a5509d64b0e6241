/- Contracts: the reference's names, keys, and how much a request has; the exact names of mails; a request handed in as an argument. -/
import Derived.Test.YtbmphlpmipkpcaaGreatRnm44
import Derived.Test.YtbmphlpmipkpcaaGreatRnm1

set_option linter.unusedVariables false
set_option linter.unusedSimpArgs false
namespace Go.Proofs.YtbmphlpmipkpcaaGreat
open Go.ChangeShapes Go.WideShapes Go.ChangeAt Go.RowKit Go.Deep
theorem u64_wfQ {z : Int} (h : (Lit.int .u64 z).wf = true) : U64 z := by
  simpa [U64, Lit.wf, IntKind.min, IntKind.max, IntKind.signed, IntKind.bits] using h
theorem i64_wfQ {z : Int} (h : (Lit.int .i64 z).wf = true) : I64 z := by
  simpa [I64, Lit.wf, IntKind.min, IntKind.max, IntKind.signed, IntKind.bits] using h
theorem IntsOk.consQ {k : IntKind} {ks : List IntKind} : ∀ {zs : List Int}, IntsOk (k :: ks) zs → ∃ z r, zs = z :: r ∧ (Lit.int k z).wf = true ∧ IntsOk ks r
  | z :: r, h => ⟨z, r, rfl, h.1, h.2⟩
  | [], h => h.elim
theorem IntsOk.nilQ : ∀ {zs : List Int}, IntsOk [] zs → zs = []
  | [], _ => rfl
  | _ :: _, h => h.elim
def rqLs : List Leaf := [.str, .int .i64, .int .i64, .int .u64, .int .i64, .int .i64, .str, .other 23, .other 24, .int .i64, .int .i64, .int .i64]
theorem rq_leaves : leaves Tryz.prog 5 57 = some rqLs := by kernel_rfl
theorem cp_leavesQ : leaves Tryz.prog 4 33 = some ([.i64, .i64, .i64, .i64, .i64, .u64].map .int) := by kernel_rfl
theorem tx_leavesQ : leaves Tryz.prog 4 127 = some ([.i64, .i64].map .int) := by kernel_rfl
section
variable {H : Type} {enc : TypeId × Value → H} {W : World} {held : Bool}
theorem open_cpnsQ {fuel : Nat} {v : Value} {x : DataW H × List MemPlace} (h : DataW.trod enc Tryz.prog W 0 (fun _ => true) held fuel 23 [v] = some x) : ∃ l : List Cpn, LS Cpn.cells 6 W v l ∧ ∀ y ∈ l, y.wf :=
  open_recs (n := 4) (ks := [.i64, .i64, .i64, .i64, .i64, .u64]) (fun y : Cpn => y.wf) (fun zs hz => by
    obtain ⟨z0, r0, rfl, w0, h⟩ := hz.consQ
    obtain ⟨z1, r1, rfl, w1, h⟩ := h.consQ
    obtain ⟨z2, r2, rfl, w2, h⟩ := h.consQ
    obtain ⟨z3, r3, rfl, w3, h⟩ := h.consQ
    obtain ⟨z4, r4, rfl, w4, h⟩ := h.consQ
    obtain ⟨z5, r5, rfl, w5, h⟩ := h.consQ
    obtain rfl := h.nilQ
    exact ⟨⟨z0, z1, z2, z3, z4, z5⟩, rfl, i64_wfQ w0, i64_wfQ w1, i64_wfQ w2, i64_wfQ w3, i64_wfQ w4, u64_wfQ w5⟩) Tryz.underlying23 cp_leavesQ (by kernel_rfl) (by decide) h
theorem open_txxsQ {fuel : Nat} {v : Value} {x : DataW H × List MemPlace} (h : DataW.trod enc Tryz.prog W 0 (fun _ => true) held fuel 24 [v] = some x) : ∃ l : List Txx, LS Txx.cells 2 W v l ∧ ∀ y ∈ l, y.wf :=
  open_recs (n := 4) (ks := [.i64, .i64]) (fun y : Txx => y.wf) (fun zs hz => by
    obtain ⟨z0, r0, rfl, w0, h⟩ := hz.consQ
    obtain ⟨z1, r1, rfl, w1, h⟩ := h.consQ
    obtain rfl := h.nilQ
    exact ⟨⟨z0, z1⟩, rfl, i64_wfQ w0, i64_wfQ w1⟩) Tryz.underlying24 tx_leavesQ (by kernel_rfl) (by decide) h
theorem AllOk.consQ {l : Leaf} {ls : List Leaf} : ∀ {cs : List Value}, AllOk enc Tryz.prog W held (l :: ls) cs → ∃ v vs, cs = v :: vs ∧ l.ok enc Tryz.prog W held v ∧ AllOk enc Tryz.prog W held ls vs
  | v :: vs, h => ⟨v, vs, rfl, h.1, h.2⟩
  | [], h => h.elim
theorem AllOk.nilQ : ∀ {cs : List Value}, AllOk enc Tryz.prog W held [] cs → cs = []
  | [], _ => rfl
  | _ :: _, h => h.elim
set_option maxRecDepth 10000 in
theorem open_request {r : Reach} {b0 : Nat} {v : Value} {d : DataW H} {ps : List MemPlace} (hv : Value.okWide Tryz.prog W r b0 57 v) (h : DataW.Trod enc Tryz.prog W 0 (fun _ => true) held 57 v d ps) :
    ∃ (a : Rqt) (p q : Option Addr) (n cap m cap2 : Nat), v = .agg #[.string a.key, .int .i64 a.k, .int .i64 a.d, .int .u64 a.tk, .int .i64 a.c, .int .i64 a.st, .string a.loc, .slice p n cap, .slice q m cap2, .int .i64 a.am, .int .i64 a.fr, .int .i64 a.tt] ∧ LS Cpn.cells 6 W (.slice p n cap) a.cs ∧ LS Txx.cells 2 W (.slice q m cap2) a.xs ∧ a.wf := by
  obtain ⟨cs, rfl, hc⟩ := open_leaves Tryz.underlying57 rq_leaves hv h
  unfold rqLs at hc
  obtain ⟨v0, r0, rfl, m0, hc⟩ := hc.consQ
  obtain ⟨v1, r1, rfl, m1, hc⟩ := hc.consQ
  obtain ⟨v2, r2, rfl, m2, hc⟩ := hc.consQ
  obtain ⟨v3, r3, rfl, m3, hc⟩ := hc.consQ
  obtain ⟨v4, r4, rfl, m4, hc⟩ := hc.consQ
  obtain ⟨v5, r5, rfl, m5, hc⟩ := hc.consQ
  obtain ⟨v6, r6, rfl, m6, hc⟩ := hc.consQ
  obtain ⟨v7, r7, rfl, m7, hc⟩ := hc.consQ
  obtain ⟨v8, r8, rfl, m8, hc⟩ := hc.consQ
  obtain ⟨v9, r9, rfl, m9, hc⟩ := hc.consQ
  obtain ⟨v10, r10, rfl, m10, hc⟩ := hc.consQ
  obtain ⟨v11, r11, rfl, m11, hc⟩ := hc.consQ
  obtain rfl := hc.nilQ
  obtain ⟨z0, rfl, w0⟩ := m0
  obtain ⟨z1, rfl, w1⟩ := m1
  obtain ⟨z2, rfl, w2⟩ := m2
  obtain ⟨z3, rfl, w3⟩ := m3
  obtain ⟨z4, rfl, w4⟩ := m4
  obtain ⟨z5, rfl, w5⟩ := m5
  obtain ⟨z6, rfl, w6⟩ := m6
  obtain ⟨n7, x7, h7⟩ := m7
  obtain ⟨n8, x8, h8⟩ := m8
  obtain ⟨z9, rfl, w9⟩ := m9
  obtain ⟨z10, rfl, w10⟩ := m10
  obtain ⟨z11, rfl, w11⟩ := m11
  obtain ⟨l7, g7, k7⟩ := open_cpnsQ h7
  obtain ⟨l8, g8, k8⟩ := open_txxsQ h8
  obtain ⟨p7, c7, rfl⟩ := g7.shape
  obtain ⟨p8, c8, rfl⟩ := g8.shape
  exact ⟨⟨z0, z6, z1, z2, z3, z4, z5, z9, z10, z11, l7, l8⟩, p7, p8, _, c7, _, c8, rfl, g7, g8, ⟨w0, w6, i64_wfQ w1, i64_wfQ w2, u64_wfQ w3, i64_wfQ w4, i64_wfQ w5, i64_wfQ w9, i64_wfQ w10, i64_wfQ w11, k7, k8⟩⟩
end
/-- the mails' kinds' names, none for others -/
def mNameX (k : Int) : List UInt8 := if k = 1 then [97, 115, 107] else if k = 2 then [103, 114, 97, 110, 116] else if k = 3 then [100, 101, 110, 121] else if k = 4 then [114, 101, 116, 117, 114, 110] else if k = 5 then [102, 108, 111, 119, 110] else []
theorem mailNameX_any (k : Int) (w : World) : Calls Tryz.prog 31 #[.int .i64 k] w fun e w' => e = .returned (.string ⟨(mNameX k).toArray⟩) ∧ Below w.heap.size w w' := by
  by_cases h : 1 ≤ k ∧ k ≤ 5
  · have h1 : ¬ k < 1 := by omega
    have h2 : ¬ 5 < k := by omega
    obtain ⟨h, h'⟩ := h
    have hk : k = 1 ∨ k = 2 ∨ k = 3 ∨ k = 4 ∨ k = 5 := by omega
    rcases hk with rfl | rfl | rfl | rfl | rfl
    all_goals
      go_enter Tryz.func31, Tryz.ntmps31
      go_wp2
      go_ret
      exact ⟨rfl, (Below.refl _ _).alloc (Nat.le_refl _) _⟩
  · have h' : k < 1 ∨ 5 < k := by omega
    have HE : Hid (mNameX k = []) := Lib.hid (by unfold mNameX; rw [if_neg (by omega), if_neg (by omega), if_neg (by omega), if_neg (by omega), if_neg (by omega)])
    rcases h' with h' | h'
    all_goals
      go_enter Tryz.func31, Tryz.ntmps31
      go_wp2
      go_ret
      exact ⟨by rw [HE.out]; rfl, (Below.refl _ _).alloc (Nat.le_refl _) _⟩
set_option maxHeartbeats 2000000 in
set_option maxRecDepth 8000 in
theorem rNames_any (w : World) : Calls Tryz.prog 25 #[] w fun e w' => e = .returned (.slice (some ⟨w.heap.size, 0, none⟩) 10 10) ∧ w'.heap[w.heap.size]? = some (.cells #[.string ⟨#[105, 115, 115, 117, 101]⟩, .string ⟨#[109, 111, 118, 101]⟩, .string ⟨#[118, 111, 105, 100]⟩, .string ⟨#[114, 101, 102, 117, 110, 100]⟩, .string ⟨#[101, 120, 99, 104, 97, 110, 103, 101]⟩, .string ⟨#[97, 115, 107]⟩, .string ⟨#[114, 101, 116, 117, 114, 110]⟩, .string ⟨#[115, 104, 111, 119]⟩, .string ⟨#[102, 105, 110, 100]⟩, .string ⟨#[114, 101, 112, 111, 114, 116]⟩] 9 (0, 0)) ∧ Below w.heap.size w w' := by
  go_enter Tryz.func25, Tryz.ntmps25
  go_wp2
  go_ret
  exact ⟨rfl, new_rowW w (.cells #[.string ⟨#[105, 115, 115, 117, 101]⟩, .string ⟨#[109, 111, 118, 101]⟩, .string ⟨#[118, 111, 105, 100]⟩, .string ⟨#[114, 101, 102, 117, 110, 100]⟩, .string ⟨#[101, 120, 99, 104, 97, 110, 103, 101]⟩, .string ⟨#[97, 115, 107]⟩, .string ⟨#[114, 101, 116, 117, 114, 110]⟩, .string ⟨#[115, 104, 111, 119]⟩, .string ⟨#[102, 105, 110, 100]⟩, .string ⟨#[114, 101, 112, 111, 114, 116]⟩] 9) _ rfl, (Below.refl _ _).alloc (Nat.le_refl _) _⟩
set_option maxHeartbeats 2000000 in
set_option maxRecDepth 8000 in
theorem rMailNames_any (w : World) : Calls Tryz.prog 26 #[] w fun e w' => e = .returned (.slice (some ⟨w.heap.size, 0, none⟩) 5 5) ∧ w'.heap[w.heap.size]? = some (.cells #[.string ⟨#[97, 115, 107]⟩, .string ⟨#[103, 114, 97, 110, 116]⟩, .string ⟨#[100, 101, 110, 121]⟩, .string ⟨#[114, 101, 116, 117, 114, 110]⟩, .string ⟨#[102, 108, 111, 119, 110]⟩] 9 (0, 0)) ∧ Below w.heap.size w w' := by
  go_enter Tryz.func26, Tryz.ntmps26
  go_wp2
  go_ret
  exact ⟨rfl, new_rowW w (.cells #[.string ⟨#[97, 115, 107]⟩, .string ⟨#[103, 114, 97, 110, 116]⟩, .string ⟨#[100, 101, 110, 121]⟩, .string ⟨#[114, 101, 116, 117, 114, 110]⟩, .string ⟨#[102, 108, 111, 119, 110]⟩] 9) _ rfl, (Below.refl _ _).alloc (Nat.le_refl _) _⟩
theorem names_at (k : Nat) (h : k < 10) : (#[.string ⟨#[105, 115, 115, 117, 101]⟩, .string ⟨#[109, 111, 118, 101]⟩, .string ⟨#[118, 111, 105, 100]⟩, .string ⟨#[114, 101, 102, 117, 110, 100]⟩, .string ⟨#[101, 120, 99, 104, 97, 110, 103, 101]⟩, .string ⟨#[97, 115, 107]⟩, .string ⟨#[114, 101, 116, 117, 114, 110]⟩, .string ⟨#[115, 104, 111, 119]⟩, .string ⟨#[102, 105, 110, 100]⟩, .string ⟨#[114, 101, 112, 111, 114, 116]⟩] : Array Value)[k]? = some (.string ⟨(Rq.nameL ((k : Int) + 1)).toArray⟩) := by
  have hk : k = 0 ∨ k = 1 ∨ k = 2 ∨ k = 3 ∨ k = 4 ∨ k = 5 ∨ k = 6 ∨ k = 7 ∨ k = 8 ∨ k = 9 := by omega
  rcases hk with rfl | rfl | rfl | rfl | rfl | rfl | rfl | rfl | rfl | rfl <;> rfl
theorem mails_at (k : Nat) (h : k < 5) : (#[.string ⟨#[97, 115, 107]⟩, .string ⟨#[103, 114, 97, 110, 116]⟩, .string ⟨#[100, 101, 110, 121]⟩, .string ⟨#[114, 101, 116, 117, 114, 110]⟩, .string ⟨#[102, 108, 111, 119, 110]⟩] : Array Value)[k]? = some (.string ⟨(mNameX ((k : Int) + 1)).toArray⟩) := by
  have hk : k = 0 ∨ k = 1 ∨ k = 2 ∨ k = 3 ∨ k = 4 := by omega
  rcases hk with rfl | rfl | rfl | rfl | rfl <;> rfl
set_option maxHeartbeats 1000000 in
theorem rMayKey_any (s : ByteArray) (w : World) (hs : s.size ≤ maxLen) :
    Calls Tryz.prog 29 #[.string s] w fun e w' => e = .returned (.bool (Rq.keyB s.data.toList)) ∧ w = w' := by
  unfold maxLen at hs
  go_enter Tryz.func29, Tryz.ntmps29
  go_wp2
  go_loop [3] (fun i => ∃ k : Nat, k ≤ s.size ∧ i = .int .i64 k ∧ s.data.toList.all Rq.keyByte = (s.data.toList.drop k).all Rq.keyByte) (fun i => s.size - (intOf i).toNat)
  case atStart => exact ⟨0, Nat.zero_le _, rfl, rfl⟩
  case round =>
    obtain ⟨k, hk, rfl, hall⟩ := hrel
    have HA := Lib.hid hall; clear hall
    by_cases hlt : k < s.size
    · have HD := Lib.hid (drop_step s k hlt)
      rcases Rq.iv_key (s[k].toNat : Int) with hb | ⟨hb, hb'⟩ | ⟨hb, hb'⟩ | ⟨hb, hb'⟩ | hb
      case inr.inl | inr.inr.inr.inl =>
        all_goals
          have HS := Lib.hid (Rq.all_stepK HD.out (Rq.keyByte_yes (by omega)))
          go_wp2
          go_round
          case rel => exact ⟨k + 1, by omega, by go_num, by rw [HA.out, HS.out]; rfl⟩
          case measure => simp [intOf]; omega
      all_goals
        have HS := Lib.hid (Rq.all_stepK HD.out (Rq.keyByte_no (by omega)))
        go_wp2
      all_goals first
        | (go_ret; exact ⟨ret_bool (by unfold Rq.keyB; rw [HA.out, HS.out]; rfl), rfl⟩)
        | (exfalso; simp only [Bool.not_eq_eq_eq_not, Bool.not_false, Bool.not_true, decide_eq_true_eq, decide_eq_false_iff_not] at *; omega)
    · have HD := Lib.hid (drop_end s k hlt)
      go_wp2
      all_goals
        go_ret
        refine ⟨ret_bool ?_, rfl⟩
        unfold Rq.keyB
        rw [HA.out, HD.out]
        rw [Bool.eq_iff_iff]; simp; omega
set_option maxHeartbeats 2000000 in
set_option maxRecDepth 8000 in
theorem rMuch16_any (a : Rqt) (p q : Option Addr) (n cap m cap2 : Nat) (w : World) (h1 : n ≤ maxLen) (h2 : m ≤ maxLen) (h3 : a.key.size ≤ maxLen) (h4 : a.loc.size ≤ maxLen) :
    Calls Tryz.prog 19 #[.agg #[.string a.key, .int .i64 a.k, .int .i64 a.d, .int .u64 a.tk, .int .i64 a.c, .int .i64 a.st, .string a.loc, .slice p n cap, .slice q m cap2, .int .i64 a.am, .int .i64 a.fr, .int .i64 a.tt]] w fun e w' => e = .returned (.bool (decide (40 < n) || decide (40 < m) || decide (200 < a.key.size) || decide (200 < a.loc.size))) ∧ Below w.heap.size w w' := by
  unfold maxLen at h1 h2 h3 h4
  have hr1 := new_rowW w (.cells #[.string a.key, .int .i64 a.k, .int .i64 a.d, .int .u64 a.tk, .int .i64 a.c, .int .i64 a.st, .string a.loc, .slice p n cap, .slice q m cap2, .int .i64 a.am, .int .i64 a.fr, .int .i64 a.tt] 57 (0, 0)) _ rfl
  have HB := Lib.hid ((Below.refl w.heap.size w).alloc (Nat.le_refl _) (.cells #[.string a.key, .int .i64 a.k, .int .i64 a.d, .int .u64 a.tk, .int .i64 a.c, .int .i64 a.st, .string a.loc, .slice p n cap, .slice q m cap2, .int .i64 a.am, .int .i64 a.fr, .int .i64 a.tt] 57 (0, 0)))
  have kc := fun j => cell_of_row _ w.heap.size j _ _ _ hr1
  clear hr1
  go_enter Tryz.func19, Tryz.ntmps19
  go_wp2_with fail
  all_goals
    go_ret
    refine ⟨ret_bool ?_, HB.out⟩
    rw [Bool.eq_iff_iff]
    simp
    try omega
end Go.Proofs.YtbmphlpmipkpcaaGreat
