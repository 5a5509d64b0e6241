/- Contracts of package desk: closures on coupons, stands, Need. Contracts: slices.Contains over numbers; desk.numbers. Contracts of the reference 15: Day, Amount, carrier, has, Need, Much. -/
import Derived.Test.YtadabjkhiaidcaaDsl31
import Derived.Test.YtadabjkhiaidcaaDsl6

section
set_option linter.unusedVariables false
set_option linter.unusedSimpArgs false
namespace Go.Proofs.Ytadabjkhiaidcaa
open Go.ChangeShapes Go.WideShapes Go.ChangeAt Go.RowKit Go.Deep

/-- do taxes stand? -/
def Dk.standsB (l : List Cpn) : Bool := l.any (fun y => Tkt.liveB y.st || decide (y.st = 4))
attribute [local go_sem ↓] Tk_execLoad Tk_execStore Cp_execStore Tx_execLoad Tx_execStore

attribute [local go_sem] Tk_load Tk_store Cp_store Tx_load Tx_store loL_drew okL_drew there_sc World.there_drew

set_option maxRecDepth 4000 in
set_option maxHeartbeats 4000000 in
theorem dstands1_any (y : Cpn) (w : World) : Calls Try.prog 88 #[.agg #[.int .i64 y.fl, .int .i64 y.dy, .int .i64 y.va, .int .i64 y.st, .int .i64 y.ho, .int .u64 y.nx]] w fun e w' => e = .returned (.bool (Tkt.liveB y.st || decide (y.st = 4))) ∧ Below w.heap.size w w' := by
  have HB := Lib.hid ((Below.refl w.heap.size w).alloc (Nat.le_refl _) (.cells #[.int .i64 y.fl, .int .i64 y.dy, .int .i64 y.va, .int .i64 y.st, .int .i64 y.ho, .int .u64 y.nx] 37 (0, 0)))
  have kc := fun j => cell_of_row _ w.heap.size j _ _ _ (new_rowW w (.cells #[.int .i64 y.fl, .int .i64 y.dy, .int .i64 y.va, .int .i64 y.st, .int .i64 y.ho, .int .u64 y.nx] 37 (0, 0)) _ rfl)
  have HLV := Lib.hid (fun W => statusLive_any y.st W)
  obtain ⟨q, hq⟩ : ∃ q, Tkt.liveB y.st = q := ⟨_, rfl⟩
  rw [hq] at HLV ⊢
  clear hq
  go_enter Try.func88, Try.ntmps88
  cases q
  · obtain ⟨p, hp⟩ : ∃ p, decide (y.st = 4) = p := ⟨_, rfl⟩
    rw [hp]
    have heb : (y.st == 4) = p := by rw [← hp]; rfl
    clear hp
    cases p
    · go_wp2_with (go_at_call 89; refine (HLV.out _).mono ?_; rintro e wn ⟨rfl, rfl⟩)
      go_ret
      exact ⟨rfl, HB.out⟩
    · go_wp2_with (go_at_call 89; refine (HLV.out _).mono ?_; rintro e wn ⟨rfl, rfl⟩)
      go_ret
      exact ⟨rfl, HB.out⟩
  · go_wp2_with (go_at_call 89; refine (HLV.out _).mono ?_; rintro e wn ⟨rfl, rfl⟩)
    go_ret
    exact ⟨rfl, HB.out⟩


set_option maxRecDepth 4000 in
set_option maxHeartbeats 4000000 in
theorem dexch1_any (y : Cpn) (w : World) : Calls Try.prog 57 #[.agg #[.int .i64 y.fl, .int .i64 y.dy, .int .i64 y.va, .int .i64 y.st, .int .i64 y.ho, .int .u64 y.nx]] w fun e w' => e = .returned (.bool (decide (y.st = 1))) ∧ Below w.heap.size w w' := by
  have HB := Lib.hid ((Below.refl w.heap.size w).alloc (Nat.le_refl _) (.cells #[.int .i64 y.fl, .int .i64 y.dy, .int .i64 y.va, .int .i64 y.st, .int .i64 y.ho, .int .u64 y.nx] 37 (0, 0)))
  have kc := fun j => cell_of_row _ w.heap.size j _ _ _ (new_rowW w (.cells #[.int .i64 y.fl, .int .i64 y.dy, .int .i64 y.va, .int .i64 y.st, .int .i64 y.ho, .int .u64 y.nx] 37 (0, 0)) _ rfl)
  go_enter Try.func57, Try.ntmps57
  obtain ⟨p, hp⟩ : ∃ p, decide (y.st = 1) = p := ⟨_, rfl⟩
  rw [hp]
  have heb : (y.st == 1) = p := by rw [← hp]; rfl
  clear hp
  cases p
  · go_wp2
    go_ret
    exact ⟨ret_bool (by first | rfl | simp [bne, heb]), HB.out⟩
  · go_wp2
    go_ret
    exact ⟨ret_bool (by first | rfl | simp [bne, heb]), HB.out⟩


set_option maxRecDepth 4000 in
set_option maxHeartbeats 4000000 in
theorem dvoid1_any (y : Cpn) (w : World) : Calls Try.prog 48 #[.agg #[.int .i64 y.fl, .int .i64 y.dy, .int .i64 y.va, .int .i64 y.st, .int .i64 y.ho, .int .u64 y.nx]] w fun e w' => e = .returned (.bool (!decide (y.st = 1))) ∧ Below w.heap.size w w' := by
  have HB := Lib.hid ((Below.refl w.heap.size w).alloc (Nat.le_refl _) (.cells #[.int .i64 y.fl, .int .i64 y.dy, .int .i64 y.va, .int .i64 y.st, .int .i64 y.ho, .int .u64 y.nx] 37 (0, 0)))
  have kc := fun j => cell_of_row _ w.heap.size j _ _ _ (new_rowW w (.cells #[.int .i64 y.fl, .int .i64 y.dy, .int .i64 y.va, .int .i64 y.st, .int .i64 y.ho, .int .u64 y.nx] 37 (0, 0)) _ rfl)
  go_enter Try.func48, Try.ntmps48
  obtain ⟨p, hp⟩ : ∃ p, decide (y.st = 1) = p := ⟨_, rfl⟩
  rw [hp]
  have heb : (y.st == 1) = p := by rw [← hp]; rfl
  clear hp
  cases p
  · go_wp2
    go_ret
    exact ⟨ret_bool (by first | rfl | simp [bne, heb]), HB.out⟩
  · go_wp2
    go_ret
    exact ⟨ret_bool (by first | rfl | simp [bne, heb]), HB.out⟩



set_option maxRecDepth 4000 in
set_option maxHeartbeats 1000000 in
theorem hasStandsI_any (l : List Cpn) (q : Cpn → Bool) (bv : Bool) (hbv : bv = true ↔ ∃ x ∈ l, q x = true) (p : Option Addr) (n cap : Nat) (w : World) (hs : LS Cpn.cells 6 w (.slice p n cap) l)
    (hc : ∀ x ∈ l, ∀ W, Below w.heap.size w W → Calls Try.prog 88 #[.agg #[.int .i64 x.fl, .int .i64 x.dy, .int .i64 x.va, .int .i64 x.st, .int .i64 x.ho, .int .u64 x.nx]] W fun e w' => e = .returned (.bool (q x)) ∧ Below W.heap.size W w') :
    Calls Try.prog 77 #[.slice p n cap, .func (.func 88) #[] #[]] w fun e w' => (∃ j : Int, e = .returned (.int .i64 j) ∧ decide (0 ≤ j) = bv) ∧ Below w.heap.size w w' := by
  have HPS := Lib.hid hs; have HN := Lib.hid hs.length.1
  have hn1 := hs.length.2.1
  have hn2 := hs.length.2.2
  unfold maxLen at hn2
  have HBV := Lib.hid hbv; have HC := Lib.hid hc
  clear hs hbv hc
  go_enter Try.func77, Try.ntmps77
  go_wp2
  go_loopw [8] (fun i wr => ∃ k : Nat, k ≤ n ∧ i = .int .i64 k ∧ (∀ (j : Nat) (x : Cpn), j < k → l[j]? = some x → q x = false) ∧ Below w.heap.size w wr) (fun i _ => n - (intOf i).toNat)
  case atStart => exact ⟨0, Nat.zero_le _, rfl, fun j x h => absurd h (Nat.not_lt_zero _), Below.refl _ _⟩
  case round =>
    obtain ⟨k, hk, rfl, hall, hbw⟩ := hrel
    have HALL := Lib.hid hall; have HBW := Lib.hid hbw
    clear hall
    by_cases hlt : k < n
    · obtain ⟨x, hx⟩ : ∃ x, l[k]? = some x := ⟨_, List.getElem?_eq_getElem (by have := HN.out; omega)⟩
      obtain ⟨bb, o, rfl, hbl, hr⟩ := (HPS.out.below hbw).at hx
      have HX := Lib.hid hx
      have HW := Lib.hid (HC.out x (List.mem_of_getElem? hx))
      have c0 : wr.cell? ⟨bb, o + k * 6, none⟩ = some (.int .i64 x.fl) := hr 0 _ rfl
      have c1 : wr.cell? ⟨bb, o + k * 6 + 1, none⟩ = some (.int .i64 x.dy) := hr 1 _ rfl
      have c2 : wr.cell? ⟨bb, o + k * 6 + 2, none⟩ = some (.int .i64 x.va) := hr 2 _ rfl
      have c3 : wr.cell? ⟨bb, o + k * 6 + 3, none⟩ = some (.int .i64 x.st) := hr 3 _ rfl
      have c4 : wr.cell? ⟨bb, o + k * 6 + 4, none⟩ = some (.int .i64 x.ho) := hr 4 _ rfl
      have c5 : wr.cell? ⟨bb, o + k * 6 + 5, none⟩ = some (.int .u64 x.nx) := hr 5 _ rfl
      clear hx hbw hr
      obtain ⟨y, hy⟩ : ∃ y, q x = y := ⟨_, rfl⟩
      rw [hy] at HW
      have HY := Lib.hid hy
      clear hy
      go_wp2_with fail
      refine (HW.out _ HBW.out).mono ?_
      rintro e w1 ⟨rfl, hb1⟩
      have HBW1 := Lib.hid (HBW.out.trans (hb1.mono HBW.out.size))
      clear hb1
      clear c0 c1 c2 c3 c4 c5
      cases y
      · go_wp2
        go_roundw
        case rel =>
          refine ⟨k + 1, by omega, by go_num, fun j z hj hz => ?_, HBW1.out⟩
          rcases Nat.lt_or_ge j k with h | h
          · exact HALL.out j z h hz
          · obtain rfl : j = k := by omega
            have := HX.out.symm.trans hz
            injection this with this
            rw [← this]
            exact HY.out
        case measure => simp [intOf]; omega
      · go_wp2
        go_ret
        refine ⟨⟨k, rfl, ?_⟩, HBW1.out⟩
        have := HBV.out.2 ⟨x, List.mem_of_getElem? HX.out, HY.out⟩
        rw [this]; simp
    · obtain rfl : k = n := by omega
      clear hbw
      go_wp2
      go_ret
      refine ⟨⟨-1, rfl, ?_⟩, HBW.out⟩
      cases bv
      · rfl
      · obtain ⟨x, hx, h1⟩ := HBV.out.1 rfl
        obtain ⟨j, hj⟩ := List.getElem?_of_mem hx
        have := HALL.out j x (by have := (List.getElem?_eq_some_iff.1 hj).1; have := HN.out; omega) hj
        rw [h1] at this
        cases this
theorem hasStands_any (l : List Cpn) (q : Cpn → Bool) (bv : Bool) (hbv : bv = true ↔ ∃ x ∈ l, q x = true) (p : Option Addr) (n cap : Nat) (w : World) (hs : LS Cpn.cells 6 w (.slice p n cap) l)
    (hc : ∀ x ∈ l, ∀ W, Below w.heap.size w W → Calls Try.prog 88 #[.agg #[.int .i64 x.fl, .int .i64 x.dy, .int .i64 x.va, .int .i64 x.st, .int .i64 x.ho, .int .u64 x.nx]] W fun e w' => e = .returned (.bool (q x)) ∧ Below W.heap.size W w') :
    Calls Try.prog 47 #[.slice p n cap, .func (.func 88) #[] #[]] w fun e w' => e = .returned (.bool bv) ∧ Below w.heap.size w w' := by
  have H := Lib.hid (hasStandsI_any l q bv hbv p n cap w hs hc)
  clear hs hc hbv
  go_enter Try.func47, Try.ntmps47
  go_wp2_with fail
  refine H.out.mono ?_
  rintro e w1 ⟨⟨j, rfl, hj⟩, hb1⟩
  go_wp2
  go_ret
  exact ⟨rfl, hb1⟩


set_option maxRecDepth 4000 in
set_option maxHeartbeats 1000000 in
theorem hasOpenI_any (l : List Cpn) (q : Cpn → Bool) (bv : Bool) (hbv : bv = true ↔ ∃ x ∈ l, q x = true) (p : Option Addr) (n cap : Nat) (w : World) (hs : LS Cpn.cells 6 w (.slice p n cap) l)
    (hc : ∀ x ∈ l, ∀ W, Below w.heap.size w W → Calls Try.prog 57 #[.agg #[.int .i64 x.fl, .int .i64 x.dy, .int .i64 x.va, .int .i64 x.st, .int .i64 x.ho, .int .u64 x.nx]] W fun e w' => e = .returned (.bool (q x)) ∧ Below W.heap.size W w') :
    Calls Try.prog 77 #[.slice p n cap, .func (.func 57) #[] #[]] w fun e w' => (∃ j : Int, e = .returned (.int .i64 j) ∧ decide (0 ≤ j) = bv) ∧ Below w.heap.size w w' := by
  have HPS := Lib.hid hs; have HN := Lib.hid hs.length.1
  have hn1 := hs.length.2.1
  have hn2 := hs.length.2.2
  unfold maxLen at hn2
  have HBV := Lib.hid hbv; have HC := Lib.hid hc
  clear hs hbv hc
  go_enter Try.func77, Try.ntmps77
  go_wp2
  go_loopw [8] (fun i wr => ∃ k : Nat, k ≤ n ∧ i = .int .i64 k ∧ (∀ (j : Nat) (x : Cpn), j < k → l[j]? = some x → q x = false) ∧ Below w.heap.size w wr) (fun i _ => n - (intOf i).toNat)
  case atStart => exact ⟨0, Nat.zero_le _, rfl, fun j x h => absurd h (Nat.not_lt_zero _), Below.refl _ _⟩
  case round =>
    obtain ⟨k, hk, rfl, hall, hbw⟩ := hrel
    have HALL := Lib.hid hall; have HBW := Lib.hid hbw
    clear hall
    by_cases hlt : k < n
    · obtain ⟨x, hx⟩ : ∃ x, l[k]? = some x := ⟨_, List.getElem?_eq_getElem (by have := HN.out; omega)⟩
      obtain ⟨bb, o, rfl, hbl, hr⟩ := (HPS.out.below hbw).at hx
      have HX := Lib.hid hx
      have HW := Lib.hid (HC.out x (List.mem_of_getElem? hx))
      have c0 : wr.cell? ⟨bb, o + k * 6, none⟩ = some (.int .i64 x.fl) := hr 0 _ rfl
      have c1 : wr.cell? ⟨bb, o + k * 6 + 1, none⟩ = some (.int .i64 x.dy) := hr 1 _ rfl
      have c2 : wr.cell? ⟨bb, o + k * 6 + 2, none⟩ = some (.int .i64 x.va) := hr 2 _ rfl
      have c3 : wr.cell? ⟨bb, o + k * 6 + 3, none⟩ = some (.int .i64 x.st) := hr 3 _ rfl
      have c4 : wr.cell? ⟨bb, o + k * 6 + 4, none⟩ = some (.int .i64 x.ho) := hr 4 _ rfl
      have c5 : wr.cell? ⟨bb, o + k * 6 + 5, none⟩ = some (.int .u64 x.nx) := hr 5 _ rfl
      clear hx hbw hr
      obtain ⟨y, hy⟩ : ∃ y, q x = y := ⟨_, rfl⟩
      rw [hy] at HW
      have HY := Lib.hid hy
      clear hy
      go_wp2_with fail
      refine (HW.out _ HBW.out).mono ?_
      rintro e w1 ⟨rfl, hb1⟩
      have HBW1 := Lib.hid (HBW.out.trans (hb1.mono HBW.out.size))
      clear hb1
      clear c0 c1 c2 c3 c4 c5
      cases y
      · go_wp2
        go_roundw
        case rel =>
          refine ⟨k + 1, by omega, by go_num, fun j z hj hz => ?_, HBW1.out⟩
          rcases Nat.lt_or_ge j k with h | h
          · exact HALL.out j z h hz
          · obtain rfl : j = k := by omega
            have := HX.out.symm.trans hz
            injection this with this
            rw [← this]
            exact HY.out
        case measure => simp [intOf]; omega
      · go_wp2
        go_ret
        refine ⟨⟨k, rfl, ?_⟩, HBW1.out⟩
        have := HBV.out.2 ⟨x, List.mem_of_getElem? HX.out, HY.out⟩
        rw [this]; simp
    · obtain rfl : k = n := by omega
      clear hbw
      go_wp2
      go_ret
      refine ⟨⟨-1, rfl, ?_⟩, HBW.out⟩
      cases bv
      · rfl
      · obtain ⟨x, hx, h1⟩ := HBV.out.1 rfl
        obtain ⟨j, hj⟩ := List.getElem?_of_mem hx
        have := HALL.out j x (by have := (List.getElem?_eq_some_iff.1 hj).1; have := HN.out; omega) hj
        rw [h1] at this
        cases this
theorem hasOpen_any (l : List Cpn) (q : Cpn → Bool) (bv : Bool) (hbv : bv = true ↔ ∃ x ∈ l, q x = true) (p : Option Addr) (n cap : Nat) (w : World) (hs : LS Cpn.cells 6 w (.slice p n cap) l)
    (hc : ∀ x ∈ l, ∀ W, Below w.heap.size w W → Calls Try.prog 57 #[.agg #[.int .i64 x.fl, .int .i64 x.dy, .int .i64 x.va, .int .i64 x.st, .int .i64 x.ho, .int .u64 x.nx]] W fun e w' => e = .returned (.bool (q x)) ∧ Below W.heap.size W w') :
    Calls Try.prog 47 #[.slice p n cap, .func (.func 57) #[] #[]] w fun e w' => e = .returned (.bool bv) ∧ Below w.heap.size w w' := by
  have H := Lib.hid (hasOpenI_any l q bv hbv p n cap w hs hc)
  clear hs hc hbv
  go_enter Try.func47, Try.ntmps47
  go_wp2_with fail
  refine H.out.mono ?_
  rintro e w1 ⟨⟨j, rfl, hj⟩, hb1⟩
  go_wp2
  go_ret
  exact ⟨rfl, hb1⟩


set_option maxRecDepth 4000 in
set_option maxHeartbeats 1000000 in
theorem hasUnopenI_any (l : List Cpn) (q : Cpn → Bool) (bv : Bool) (hbv : bv = true ↔ ∃ x ∈ l, q x = true) (p : Option Addr) (n cap : Nat) (w : World) (hs : LS Cpn.cells 6 w (.slice p n cap) l)
    (hc : ∀ x ∈ l, ∀ W, Below w.heap.size w W → Calls Try.prog 48 #[.agg #[.int .i64 x.fl, .int .i64 x.dy, .int .i64 x.va, .int .i64 x.st, .int .i64 x.ho, .int .u64 x.nx]] W fun e w' => e = .returned (.bool (q x)) ∧ Below W.heap.size W w') :
    Calls Try.prog 77 #[.slice p n cap, .func (.func 48) #[] #[]] w fun e w' => (∃ j : Int, e = .returned (.int .i64 j) ∧ decide (0 ≤ j) = bv) ∧ Below w.heap.size w w' := by
  have HPS := Lib.hid hs; have HN := Lib.hid hs.length.1
  have hn1 := hs.length.2.1
  have hn2 := hs.length.2.2
  unfold maxLen at hn2
  have HBV := Lib.hid hbv; have HC := Lib.hid hc
  clear hs hbv hc
  go_enter Try.func77, Try.ntmps77
  go_wp2
  go_loopw [8] (fun i wr => ∃ k : Nat, k ≤ n ∧ i = .int .i64 k ∧ (∀ (j : Nat) (x : Cpn), j < k → l[j]? = some x → q x = false) ∧ Below w.heap.size w wr) (fun i _ => n - (intOf i).toNat)
  case atStart => exact ⟨0, Nat.zero_le _, rfl, fun j x h => absurd h (Nat.not_lt_zero _), Below.refl _ _⟩
  case round =>
    obtain ⟨k, hk, rfl, hall, hbw⟩ := hrel
    have HALL := Lib.hid hall; have HBW := Lib.hid hbw
    clear hall
    by_cases hlt : k < n
    · obtain ⟨x, hx⟩ : ∃ x, l[k]? = some x := ⟨_, List.getElem?_eq_getElem (by have := HN.out; omega)⟩
      obtain ⟨bb, o, rfl, hbl, hr⟩ := (HPS.out.below hbw).at hx
      have HX := Lib.hid hx
      have HW := Lib.hid (HC.out x (List.mem_of_getElem? hx))
      have c0 : wr.cell? ⟨bb, o + k * 6, none⟩ = some (.int .i64 x.fl) := hr 0 _ rfl
      have c1 : wr.cell? ⟨bb, o + k * 6 + 1, none⟩ = some (.int .i64 x.dy) := hr 1 _ rfl
      have c2 : wr.cell? ⟨bb, o + k * 6 + 2, none⟩ = some (.int .i64 x.va) := hr 2 _ rfl
      have c3 : wr.cell? ⟨bb, o + k * 6 + 3, none⟩ = some (.int .i64 x.st) := hr 3 _ rfl
      have c4 : wr.cell? ⟨bb, o + k * 6 + 4, none⟩ = some (.int .i64 x.ho) := hr 4 _ rfl
      have c5 : wr.cell? ⟨bb, o + k * 6 + 5, none⟩ = some (.int .u64 x.nx) := hr 5 _ rfl
      clear hx hbw hr
      obtain ⟨y, hy⟩ : ∃ y, q x = y := ⟨_, rfl⟩
      rw [hy] at HW
      have HY := Lib.hid hy
      clear hy
      go_wp2_with fail
      refine (HW.out _ HBW.out).mono ?_
      rintro e w1 ⟨rfl, hb1⟩
      have HBW1 := Lib.hid (HBW.out.trans (hb1.mono HBW.out.size))
      clear hb1
      clear c0 c1 c2 c3 c4 c5
      cases y
      · go_wp2
        go_roundw
        case rel =>
          refine ⟨k + 1, by omega, by go_num, fun j z hj hz => ?_, HBW1.out⟩
          rcases Nat.lt_or_ge j k with h | h
          · exact HALL.out j z h hz
          · obtain rfl : j = k := by omega
            have := HX.out.symm.trans hz
            injection this with this
            rw [← this]
            exact HY.out
        case measure => simp [intOf]; omega
      · go_wp2
        go_ret
        refine ⟨⟨k, rfl, ?_⟩, HBW1.out⟩
        have := HBV.out.2 ⟨x, List.mem_of_getElem? HX.out, HY.out⟩
        rw [this]; simp
    · obtain rfl : k = n := by omega
      clear hbw
      go_wp2
      go_ret
      refine ⟨⟨-1, rfl, ?_⟩, HBW.out⟩
      cases bv
      · rfl
      · obtain ⟨x, hx, h1⟩ := HBV.out.1 rfl
        obtain ⟨j, hj⟩ := List.getElem?_of_mem hx
        have := HALL.out j x (by have := (List.getElem?_eq_some_iff.1 hj).1; have := HN.out; omega) hj
        rw [h1] at this
        cases this
theorem hasUnopen_any (l : List Cpn) (q : Cpn → Bool) (bv : Bool) (hbv : bv = true ↔ ∃ x ∈ l, q x = true) (p : Option Addr) (n cap : Nat) (w : World) (hs : LS Cpn.cells 6 w (.slice p n cap) l)
    (hc : ∀ x ∈ l, ∀ W, Below w.heap.size w W → Calls Try.prog 48 #[.agg #[.int .i64 x.fl, .int .i64 x.dy, .int .i64 x.va, .int .i64 x.st, .int .i64 x.ho, .int .u64 x.nx]] W fun e w' => e = .returned (.bool (q x)) ∧ Below W.heap.size W w') :
    Calls Try.prog 47 #[.slice p n cap, .func (.func 48) #[] #[]] w fun e w' => e = .returned (.bool bv) ∧ Below w.heap.size w w' := by
  have H := Lib.hid (hasUnopenI_any l q bv hbv p n cap w hs hc)
  clear hs hc hbv
  go_enter Try.func47, Try.ntmps47
  go_wp2_with fail
  refine H.out.mono ?_
  rintro e w1 ⟨⟨j, rfl, hj⟩, hb1⟩
  go_wp2
  go_ret
  exact ⟨rfl, hb1⟩

set_option maxRecDepth 4000 in
set_option maxHeartbeats 4000000 in
theorem dstands_any (t : Tk) (c x h : Sl) (w : World) (hl : LS Cpn.cells 6 w (.slice c.p c.n c.c) t.cs) : Calls Try.prog 61 #[.agg #[.int .u64 t.num, .string t.loc, .int .i64 t.iss, .slice c.p c.n c.c, .slice x.p x.n x.c, .int .u64 t.prev, .int .u64 t.org, .int .u64 t.fst, .int .i64 t.vou, .int .i64 t.posts, .slice h.p h.n h.c]] w fun e w' => e = .returned (.bool (Dk.standsB t.cs)) ∧ Below w.heap.size w w' := by
  have HB := Lib.hid ((Below.refl w.heap.size w).alloc (Nat.le_refl _) (.cells #[.int .u64 t.num, .string t.loc, .int .i64 t.iss, .slice c.p c.n c.c, .slice x.p x.n x.c, .int .u64 t.prev, .int .u64 t.org, .int .u64 t.fst, .int .i64 t.vou, .int .i64 t.posts, .slice h.p h.n h.c] 45 (0, 0)))
  have hcs := fun j => cell_of_row _ w.heap.size j _ _ _ (new_rowW w (.cells #[.int .u64 t.num, .string t.loc, .int .i64 t.iss, .slice c.p c.n c.c, .slice x.p x.n x.c, .int .u64 t.prev, .int .u64 t.org, .int .u64 t.fst, .int .i64 t.vou, .int .i64 t.posts, .slice h.p h.n h.c] 45 (0, 0)) _ rfl)
  obtain ⟨R, hR⟩ : ∃ R, Dk.standsB t.cs = R := ⟨_, rfl⟩
  rw [hR]
  have HC := Lib.hid (hasStands_any t.cs (fun y => Tkt.liveB y.st || decide (y.st = 4)) R (by rw [← hR]; unfold Dk.standsB; simp only [List.any_eq_true]) c.p c.n c.c _ (hl.below HB.out) (fun y _ W _ => dstands1_any y W))
  clear hR hl
  go_enter Try.func61, Try.ntmps61
  go_wp2_with fail
  refine HC.out.mono ?_
  rintro e wn ⟨rfl, hbn⟩
  have HB := Lib.hid (HB.out.trans (hbn.mono HB.out.size))
  clear hbn
  go_wp2
  go_ret
  exact ⟨rfl, HB.out⟩


set_option maxRecDepth 4000 in
set_option maxHeartbeats 4000000 in
theorem dneed_any (n : Int) (w : World) : Calls Try.prog 11 #[.int .i64 n] w fun e w' => e = .returned (.int .i64 (Dk.need n)) ∧ w = w' := by
  obtain ⟨R, hR⟩ : ∃ R, Dk.need n = R := ⟨_, rfl⟩
  rw [hR]
  have HR := Lib.hid hR
  clear hR
  by_cases h1 : n < 1
  · have hr0 : R = 0 := by rw [← HR.out]; unfold Dk.need; exact if_neg (by omega)
    subst hr0
    go_enter Try.func11, Try.ntmps11
    go_wp2
    go_ret
    exact ⟨rfl, rfl⟩
  · by_cases h2 : 12 < n
    · have hr0 : R = 0 := by rw [← HR.out]; unfold Dk.need; exact if_neg (by omega)
      subst hr0
      go_enter Try.func11, Try.ntmps11
      go_wp2
      go_ret
      exact ⟨rfl, rfl⟩
    · have hr0 : R = (n + 3) / 4 := by rw [← HR.out]; unfold Dk.need; exact if_pos (by omega)
      have hcase : n = 1 ∨ n = 2 ∨ n = 3 ∨ n = 4 ∨ n = 5 ∨ n = 6 ∨ n = 7 ∨ n = 8 ∨ n = 9 ∨ n = 10 ∨ n = 11 ∨ n = 12 := by omega
      clear h1 h2 HR
      rcases hcase with rfl | rfl | rfl | rfl | rfl | rfl | rfl | rfl | rfl | rfl | rfl | rfl
      all_goals
        subst hr0
        go_enter Try.func11, Try.ntmps11
        go_wp2
        go_ret
        exact ⟨rfl, rfl⟩

end Go.Proofs.Ytadabjkhiaidcaa
end

section
set_option linter.unusedVariables false
set_option linter.unusedSimpArgs false
namespace Go.Proofs.Ytadabjkhiaidcaa
open Go.ChangeShapes Go.WideShapes Go.ChangeAt Go.RowKit Go.Deep

def u64C (n : Int) : List Value := [.int .u64 n]
namespace Dk
/-- may numbers go on so? (behind others, of a carrier) -/
def numsGo (c0 : Int) (pre : List Int) : List Int → Bool
  | [] => true
  | n :: r => (decide (Num.check n = 0) && decide (Num.carr n = c0) && !pre.contains n) && numsGo c0 (pre ++ [n]) r
def numsB (l : List Int) : Bool := numsGo (Num.carr (l.headD 0)) [] l
end Dk
theorem run_headU (q : Option Addr) (n cap k : Nat) (h : k ≤ cap) (W : World) : (Instr.slice 24 (.slice q n cap) none (some (.int .i64 (k : Int))) none).run Try.prog W = .ok (.slice q k cap) W := by
  have ht : Try.prog.underlying 24 = some (.slice (Try.prog.elem 24)) := by kernel_rfl
  have hz : ∀ W : World, (sizeOf (Try.prog.elem 24)).run Try.prog W = .ok 1 W := fun W => by
    rw [show Try.prog.elem 24 = 35 from by kernel_rfl]; simp [go_sem]
  rw [run_slice_h W _ _ _ _ ht _ _ (by omega) (by omega), hz]
  cases q <;> simp [sliced, Result.andThen, Addr.add]
set_option maxRecDepth 4000 in
set_option maxHeartbeats 4000000 in
theorem indexU_any (l : List Int) (s : Int) (p : Option Addr) (n cap : Nat) (w : World) (hs : LS u64C 1 w (.slice p n cap) l) : Calls Try.prog 90 #[.slice p n cap, .int .u64 s] w fun e w' => IdxR l s w e w' := by
  have HS := Lib.hid hs
  have HN := Lib.hid hs.length
  have hn : n ≤ 9223372036854775807 := by have h1 := hs.length.2; unfold maxLen at h1; omega
  clear hs
  go_enter Try.func90, Try.ntmps90
  go_wp2
  go_loop [8] (fun i => ∃ k : Nat, k ≤ n ∧ i = .int .i64 k ∧ ∀ x ∈ l.take k, x ≠ s) (fun i => n - (intOf i).toNat)
  case atStart => exact ⟨0, Nat.zero_le _, rfl, by simp⟩
  case round =>
    obtain ⟨k, hk, rfl, hno⟩ := hrel
    have HNO := Lib.hid hno
    clear hno
    by_cases hlt : k < n
    · obtain ⟨x, hx⟩ : ∃ x, l[k]? = some x := ⟨_, List.getElem?_eq_getElem (by have := HN.out; omega)⟩
      obtain ⟨b, o, rfl, -, hr⟩ := HS.out.at hx
      have HX := Lib.hid hx
      have hc : w.cell? ⟨b, o + k, none⟩ = some (.int .u64 x) := by have := hr 0 _ rfl; rwa [Nat.mul_one] at this
      clear hr hx
      by_cases he : s = x
      · have heb : (s == x) = true := by simpa using he
        have HF : Hid (l.contains s = true) := Lib.hid (by have := List.mem_of_getElem? HX.out; rw [← he] at this; simpa using this)
        clear he
        go_wp2
        go_ret
        exact ⟨k, rfl, by rw [HF.out]; simp, rfl⟩
      · have heb : (s == x) = false := by simpa using he
        have HE := Lib.hid he
        clear he
        go_wp2
        go_round
        case rel => exact ⟨k + 1, by omega, by go_num, take_none HNO.out HX.out (fun h => HE.out h.symm)⟩
        case measure => simp [intOf]; omega
    · obtain rfl : k = n := by omega
      go_wp2
      go_ret
      exact ⟨-1, rfl, by rw [has_none (by have := HNO.out; rwa [List.take_of_length_le (by have := HN.out; omega)] at this)]; rfl, rfl⟩


set_option maxRecDepth 4000 in
set_option maxHeartbeats 4000000 in
theorem containsU_any (l : List Int) (s : Int) (p : Option Addr) (n cap : Nat) (w : World) (hs : LS u64C 1 w (.slice p n cap) l) : Calls Try.prog 63 #[.slice p n cap, .int .u64 s] w fun e w' => e = .returned (.bool (l.contains s)) ∧ w = w' := by
  have HI := Lib.hid (indexU_any l s p n cap w hs)
  clear hs
  go_enter Try.func63, Try.ntmps63
  go_wp2_with fail
  refine HI.out.mono ?_
  rintro e w' ⟨r, rfl, hr, rfl⟩
  have HR := Lib.hid hr
  clear hr
  go_wp2
  go_ret
  exact ⟨ret_bool HR.out, rfl⟩


set_option maxRecDepth 4000 in
set_option maxHeartbeats 4000000 in
theorem dnumbers_any (l : List Int) (p : Option Addr) (n cap : Nat) (w : World) (hl : LS u64C 1 w (.slice p n cap) l) (hu : ∀ m ∈ l, U64 m) : Calls Try.prog 24 #[.slice p n cap] w fun e w' => e = .returned (.bool (Dk.numsB l)) ∧ Below w.heap.size w w' := by
  have HUU := Lib.hid hu
  clear hu
  have HLS := Lib.hid hl
  have HNL := Lib.hid hl.length.1
  have hn : n ≤ 9223372036854775807 := by have h1 := hl.length; unfold maxLen at h1; omega
  clear hl
  have HCK : Hid (∀ (m : Int), U64 m → ∀ W, Calls Try.prog 55 #[.int .u64 m] W fun e w' => e = .returned (.int .i64 (Num.check m)) ∧ W = w') := Lib.hid (fun m hm W => check_any m hm.1 hm.2 W)
  have HCR : Hid (∀ (m : Int), U64 m → ∀ W, Calls Try.prog 56 #[.int .u64 m] W fun e w' => e = .returned (.int .i64 (Num.carr m)) ∧ W = w') := Lib.hid (fun m hm W => carrier_any m hm.1 hm.2 W)
  obtain ⟨R, hR⟩ : ∃ R, Dk.numsB l = R := ⟨_, rfl⟩
  rw [hR]
  have HRV := Lib.hid hR
  clear hR
  go_enter Try.func24, Try.ntmps24
  go_wp2_with fail
  go_loopw [7] (fun i wr => ∃ k : Nat, k ≤ n ∧ i = .int .i64 k ∧ R = Dk.numsGo (Num.carr (l.headD 0)) (l.take k) (l.drop k) ∧ Below w.heap.size w wr) (fun i _ => n - (intOf i).toNat)
  case atStart => exact ⟨0, Nat.zero_le _, rfl, HRV.out.symm, Below.refl _ _⟩
  case round =>
    obtain ⟨k, hk, rfl, hg, hb⟩ := hrel
    have HB := Lib.hid hb; have HG := Lib.hid hg
    clear hb hg
    by_cases hlt : k < n
    · obtain ⟨y, hy⟩ : ∃ y, l[k]? = some y := ⟨_, List.getElem?_eq_getElem (by have := HNL.out; omega)⟩
      have HY := Lib.hid hy
      obtain ⟨z, hz⟩ : ∃ z, l[0]? = some z := ⟨_, List.getElem?_eq_getElem (by have := HNL.out; omega)⟩
      have HZ := Lib.hid hz
      have HZ2 : Hid (l.headD 0 = z) := Lib.hid (by cases l with | nil => cases hz | cons a r => exact Option.some.inj hz)
      obtain ⟨eb, ef, hp, hbl, hr⟩ := (HLS.out.below HB.out).at hy
      obtain ⟨eb2, ef2, hp2, -, hr2⟩ := (HLS.out.below HB.out).at hz
      subst hp
      injection hp2 with hp2
      injection hp2 with hp2 hp3 _
      subst hp2 hp3
      have hc : wr.cell? ⟨eb, ef + k, none⟩ = some (.int .u64 y) := by have := hr 0 _ rfl; rwa [Nat.mul_one] at this
      have hc0 : wr.cell? ⟨eb, ef, none⟩ = some (.int .u64 z) := by have := hr2 0 _ rfl; simpa using this
      have hlb : eb < wr.heap.size := hbl
      have hyu := HUU.out y (List.mem_of_getElem? hy)
      have hzu := HUU.out z (List.mem_of_getElem? hz)
      have HKY := Lib.hid (HCK.out y hyu)
      have HCY := Lib.hid (HCR.out y hyu)
      have HCZ := Lib.hid (HCR.out z hzu)
      have HCT : Hid (∀ W, Below wr.heap.size wr W → Calls Try.prog 63 #[.slice (some ⟨eb, ef, none⟩) k cap, .int .u64 y] W fun e w' => e = .returned (.bool ((l.take k).contains y)) ∧ W = w') := Lib.hid (fun W hW => containsU_any (l.take k) y _ k cap W ((HLS.out.below (HB.out.trans (hW.mono HB.out.size))).take (by omega)))
      clear hr hr2 hy hz hyu hzu hbl
      have HG2 : Hid (R = ((decide (Num.check y = 0) && decide (Num.carr y = Num.carr z) && !(l.take k).contains y) && Dk.numsGo (Num.carr (l.headD 0)) (l.take (k + 1)) (l.drop (k + 1)))) := Lib.hid (by rw [HG.out, Dk.drop_at HY.out, Tkt.take_snocT HY.out, HZ2.out]; rfl)
      obtain ⟨p1, h1⟩ : ∃ p, (Num.check y == 0) = p := ⟨_, rfl⟩
      obtain ⟨p2, h2⟩ : ∃ p, (Num.carr y == Num.carr z) = p := ⟨_, rfl⟩
      obtain ⟨p3, h3⟩ : ∃ p, (l.take k).contains y = p := ⟨_, rfl⟩
      rw [h3] at HCT
      have HG3 : Hid (R = ((p1 && p2 && !p3) && Dk.numsGo (Num.carr (l.headD 0)) (l.take (k + 1)) (l.drop (k + 1)))) := Lib.hid (by rw [HG2.out, h3, ← h1, ← h2]; rfl)
      clear h3
      have hn1 : (Num.check y != 0) = !p1 := by rw [← h1]; rfl
      have hn2 : (Num.carr y != Num.carr z) = !p2 := by rw [← h2]; rfl
      clear h1 h2
      generalize Num.check y = cy at *
      generalize Num.carr y = ry at *
      generalize Num.carr z = rz at *
      go_upto_region 4 with fail
      have hL := @Later.cell
      have hkc : k ≤ cap := by have h1 := HLS.out.length; omega
      have hsl := run_headU (some ⟨eb, ef, none⟩) n cap k hkc
      clear hkc
      cases p1
      · have hq1 : (true : Bool) = true := rfl
        obtain rfl : R = false := by rw [HG3.out]; rfl
        refine wp_region_later (by kernel_rfl) (by kernel_rfl) ?_
        repeat (go_big_quiet_step (first | (go_at_call 55; with_reducible exact later_same (HKY.out _)) | (go_at_call 56; with_reducible exact later_same (HCY.out _)) | (go_at_call 56; with_reducible exact later_same (HCZ.out _)) | (go_at_call 63; exact later_same (HCT.out _ (Later.prop _)))))
        refine wpQuiet_nil ?_
        rintro wz ⟨u', rfl⟩
        have HB := Lib.hid (HB.out.trans (u'.prop.mono HB.out.size))
        generalize u'.val = w6 at *
        clear hL hc hc0 hlb hsl
        go_wp2
        go_ret
        exact ⟨rfl, HB.out⟩
      · cases p2
        · obtain rfl : R = false := by rw [HG3.out]; rfl
          refine wp_region_later (by kernel_rfl) (by kernel_rfl) ?_
          repeat (go_big_quiet_step (first | (go_at_call 55; with_reducible exact later_same (HKY.out _)) | (go_at_call 56; with_reducible exact later_same (HCY.out _)) | (go_at_call 56; with_reducible exact later_same (HCZ.out _)) | (go_at_call 63; exact later_same (HCT.out _ (Later.prop _)))))
          refine wpQuiet_nil ?_
          rintro wz ⟨u', rfl⟩
          have HB := Lib.hid (HB.out.trans (u'.prop.mono HB.out.size))
          generalize u'.val = w6 at *
          clear hL hc hc0 hlb hsl
          go_wp2
          go_ret
          exact ⟨rfl, HB.out⟩
        · cases p3
          · have HG4 : Hid (R = Dk.numsGo (Num.carr (l.headD 0)) (l.take (k + 1)) (l.drop (k + 1))) := Lib.hid (by rw [HG3.out]; rfl)
            refine wp_region_later (by kernel_rfl) (by kernel_rfl) ?_
            repeat (go_big_quiet_step (first | (go_at_call 55; with_reducible exact later_same (HKY.out _)) | (go_at_call 56; with_reducible exact later_same (HCY.out _)) | (go_at_call 56; with_reducible exact later_same (HCZ.out _)) | (go_at_call 63; exact later_same (HCT.out _ (Later.prop _)))))
            refine wpQuiet_nil ?_
            rintro wz ⟨u', rfl⟩
            have HB := Lib.hid (HB.out.trans (u'.prop.mono HB.out.size))
            generalize u'.val = w6 at *
            clear hL hc hc0 hlb hsl
            go_wp2
            go_roundw
            case rel => exact ⟨k + 1, by omega, by go_num, HG4.out, HB.out⟩
            case measure => simp [intOf]; omega
          · obtain rfl : R = false := by rw [HG3.out]; rfl
            refine wp_region_later (by kernel_rfl) (by kernel_rfl) ?_
            repeat (go_big_quiet_step (first | (go_at_call 55; with_reducible exact later_same (HKY.out _)) | (go_at_call 56; with_reducible exact later_same (HCY.out _)) | (go_at_call 56; with_reducible exact later_same (HCZ.out _)) | (go_at_call 63; exact later_same (HCT.out _ (Later.prop _)))))
            refine wpQuiet_nil ?_
            rintro wz ⟨u', rfl⟩
            have HB := Lib.hid (HB.out.trans (u'.prop.mono HB.out.size))
            generalize u'.val = w6 at *
            clear hL hc hc0 hlb hsl
            go_wp2
            go_ret
            exact ⟨rfl, HB.out⟩
    · obtain rfl : k = n := by omega
      obtain rfl : R = true := by rw [HG.out, List.drop_of_length_le (by have := HNL.out; omega)]; rfl
      go_wp2
      go_ret
      exact ⟨rfl, HB.out⟩

end Go.Proofs.Ytadabjkhiaidcaa
end

section
set_option linter.unusedVariables false
set_option linter.unusedSimpArgs false
namespace Go.Proofs.Ytadabjkhiaidcaa
open Go.ChangeShapes Go.WideShapes Go.ChangeAt Go.RowKit Go.Deep

attribute [local go_sem ↓] Tk_execLoad Tk_execStore Cp_execLoad Cp_execStore Tx_execLoad Tx_execStore

attribute [local go_sem] Tk_load Tk_store Cp_load Cp_store Tx_load Tx_store loL_drew okL_drew there_sc World.there_drew

set_option maxRecDepth 4000 in
set_option maxHeartbeats 4000000 in
theorem rmay11_any (n : Int) (w : World) : Calls Try.prog 91 #[.int .i64 n] w fun e w' => e = .returned (.bool (decide (-1000000000000 ≤ n) && decide (n ≤ 1000000000000))) ∧ w = w' := by
  go_enter Try.func91, Try.ntmps91
  go_wp2
  all_goals
    go_ret
    refine ⟨ret_bool ?_, rfl⟩
    simp; omega


set_option maxRecDepth 4000 in
set_option maxHeartbeats 4000000 in
theorem rday15_any (n : Int) (w : World) : Calls Try.prog 35 #[.int .i64 n] w fun e w' => e = .returned (.bool (Tkt.dayB n)) ∧ w = w' := by
  go_enter Try.func35, Try.ntmps35
  go_wp2
  all_goals
    go_ret
    refine ⟨ret_bool ?_, rfl⟩
    unfold Tkt.dayB
    simp; omega


set_option maxRecDepth 4000 in
set_option maxHeartbeats 4000000 in
theorem ramount_any (n : Int) (w : World) : Calls Try.prog 64 #[.int .i64 n] w fun e w' => e = .returned (.bool (Tkt.someB n)) ∧ w = w' := by
  have HF := Lib.hid (rmay11_any n w)
  go_enter Try.func64, Try.ntmps64
  go_wp2_with (first | (go_at_call 91; refine HF.out.mono ?_; rintro e w' ⟨rfl, rfl⟩))
  all_goals
    go_ret
    refine ⟨ret_bool ?_, rfl⟩
    unfold Tkt.someB
    rw [Bool.eq_iff_iff]
    simp
    try omega


set_option maxRecDepth 4000 in
set_option maxHeartbeats 4000000 in
theorem rcarrier_any (n : Int) (hn : U64 n) (w : World) : Calls Try.prog 66 #[.int .u64 n] w fun e w' => e = .returned (.int .i64 (Num.carr n)) ∧ Below w.heap.size w w' := by
  have HP := Lib.hid (rParts_any n hn.1 hn.2 w)
  clear hn
  go_enter Try.func66, Try.ntmps66
  go_wp2_with fail
  refine HP.out.mono ?_
  rintro e w1 ⟨rfl, hb⟩
  have HB := Lib.hid hb
  clear hb
  go_wp2
  go_ret
  exact ⟨rfl, HB.out⟩


set_option maxRecDepth 4000 in
set_option maxHeartbeats 4000000 in
theorem rhas_any (l : List Int) (s : Int) (p : Option Addr) (n cap : Nat) (w : World) (hs : LS stC 1 w (.slice p n cap) l) : Calls Try.prog 67 #[.slice p n cap, .int .i64 s] w fun e w' => e = .returned (.bool (l.contains s)) ∧ w = w' := by
  have HS := Lib.hid hs
  have HN := Lib.hid hs.length
  have hn : n ≤ 9223372036854775807 := by have h1 := hs.length.2; unfold maxLen at h1; omega
  clear hs
  obtain ⟨R, hR⟩ : ∃ R, l.contains s = R := ⟨_, rfl⟩
  rw [hR]
  have HRV := Lib.hid hR
  clear hR
  go_enter Try.func67, Try.ntmps67
  go_wp2
  go_loop [5] (fun i => ∃ k : Nat, k ≤ n ∧ i = .int .i64 k ∧ ∀ x ∈ l.take k, x ≠ s) (fun i => n - (intOf i).toNat)
  case atStart => exact ⟨0, Nat.zero_le _, rfl, by simp⟩
  case round =>
    obtain ⟨k, hk, rfl, hno⟩ := hrel
    have HNO := Lib.hid hno
    clear hno
    by_cases hlt : k < n
    · obtain ⟨x, hx⟩ : ∃ x, l[k]? = some x := ⟨_, List.getElem?_eq_getElem (by have := HN.out; omega)⟩
      obtain ⟨b, o, rfl, -, hr⟩ := HS.out.at hx
      have HX := Lib.hid hx
      have hc : w.cell? ⟨b, o + k, none⟩ = some (.int .i64 x) := by have := hr 0 _ rfl; rwa [Nat.mul_one] at this
      clear hr hx
      by_cases he : x = s
      · have heb : (x == s) = true := by simpa using he
        obtain rfl : R = true := by have := List.mem_of_getElem? HX.out; rw [he] at this; rw [← HRV.out]; simpa using this
        clear he
        go_wp2
        go_ret
        exact ⟨rfl, rfl⟩
      · have heb : (x == s) = false := by simpa using he
        have HE := Lib.hid he
        clear he
        go_wp2
        go_round
        case rel => exact ⟨k + 1, by omega, by go_num, take_none HNO.out HX.out (fun h => HE.out h)⟩
        case measure => simp [intOf]; omega
    · obtain rfl : k = n := by omega
      obtain rfl : R = false := by rw [← HRV.out]; exact has_none (by have := HNO.out; rwa [List.take_of_length_le (by have := HN.out; omega)] at this)
      go_wp2
      go_ret
      exact ⟨rfl, rfl⟩


set_option maxRecDepth 4000 in
set_option maxHeartbeats 4000000 in
theorem rneed_any (n : Int) (w : World) : Calls Try.prog 12 #[.int .i64 n] w fun e w' => e = .returned (.int .i64 (Dk.need n)) ∧ w = w' := by
  obtain ⟨R, hR⟩ : ∃ R, Dk.need n = R := ⟨_, rfl⟩
  rw [hR]
  have HR := Lib.hid hR
  clear hR
  by_cases h1 : n < 1
  · have hr0 : R = 0 := by rw [← HR.out]; unfold Dk.need; exact if_neg (by omega)
    subst hr0
    go_enter Try.func12, Try.ntmps12
    go_wp2
    go_loop [3] (fun i => i = .int .i64 0) (fun _ => 0)
    case atStart => rfl
    case round =>
      subst hrel
      go_wp2
      go_ret
      exact ⟨rfl, rfl⟩
  · by_cases h2 : 12 < n
    · have hr0 : R = 0 := by rw [← HR.out]; unfold Dk.need; exact if_neg (by omega)
      subst hr0
      go_enter Try.func12, Try.ntmps12
      go_wp2
      go_loop [3] (fun i => i = .int .i64 0) (fun _ => 0)
      case atStart => rfl
      case round =>
        subst hrel
        go_wp2
        go_ret
        exact ⟨rfl, rfl⟩
    · have hr0 : R = (n + 3) / 4 := by rw [← HR.out]; unfold Dk.need; exact if_pos (by omega)
      go_enter Try.func12, Try.ntmps12
      go_wp2
      go_loop [3] (fun i => ∃ k : Nat, i = .int .i64 k ∧ 4 * (k : Int) < n + 4) (fun i => 13 - (intOf i).toNat)
      case atStart => exact ⟨0, rfl, by omega⟩
      case round =>
        obtain ⟨k, rfl, hk⟩ := hrel
        have hk4 : (k : Int) ≤ 4 := by omega
        by_cases h3 : 4 * (k : Int) < n
        · go_wp2
          go_round
          case rel => exact ⟨k + 1, by go_num, by omega⟩
          case measure => simp [intOf]; omega
        · have hkr : (k : Int) = R := by omega
          go_wp2
          go_ret
          exact ⟨by first | rfl | exact ret_intT hkr, rfl⟩


set_option maxRecDepth 4000 in
set_option maxHeartbeats 4000000 in
theorem rmuch15_any (l : List Cpn) (p : Option Addr) (n cap : Nat) (m : List Txx) (q : Option Addr) (n2 c2 : Nat) (w : World) (hl : LS Cpn.cells 6 w (.slice p n cap) l) (hx : LS Txx.cells 2 w (.slice q n2 c2) m) : Calls Try.prog 5 #[.slice p n cap, .slice q n2 c2] w fun e w' => e = .returned (.bool (decide (40 < l.length) || decide (20 < m.length))) ∧ w = w' := by
  have hn1 := hl.length
  have hn2 := hx.length
  unfold maxLen at hn1 hn2
  clear hl hx
  go_enter Try.func5, Try.ntmps5
  go_wp2
  all_goals
    go_ret
    refine ⟨ret_bool ?_, rfl⟩
    rw [Bool.eq_iff_iff]
    simp
    omega

end Go.Proofs.Ytadabjkhiaidcaa
end
