/- Contract: posting.Text. -/
import Derived.Test.YtellhmbebimenaaDoorRt37
import Derived.Test.YtellhmbebimenaaDoorRt32
import Derived.Test.YtellhmbebimenaaDoorRt3
import Derived.Test.YtellhmbebimenaaDoorRt11
import Derived.Deep.Cut
import Derived.OwnWalk

set_option linter.unusedVariables false
set_option linter.unusedSimpArgs false
namespace Go.Proofs.YtellhmbebimenaaDoor
open Go.RowKit

/-- a slice of strings -/
def StrC (l : List UInt8) : List Value := [.string ⟨l.toArray⟩]
theorem StrC_length (l : List UInt8) : (StrC l).length = 1 := rfl
theorem elemSt : Elem Tryd.prog StrC 1 16 62 9 := Elem.of Tryd.underlying62 (by kernel_rfl) (by decide) (by decide) StrC_length (fun x v hv => by unfold StrC at hv; rw [List.mem_singleton.1 hv]; rfl)
theorem own_full {w : World} {g base : Nat} {e : TypeId} {cs : Array Value} {α : Type} {enc : α → List Value} {n : Nat} {l : List α} (hg : w.heap[g]? = some (.cells cs e (0, 0))) (hb : base ≤ g) (hn : ∀ x, (enc x).length = n) (hcs : cs.toList = encL enc l) (hp : 0 < n) (hm : l.length ≤ maxLen) : w.ownsRow base e n (.slice (some ⟨g, 0, none⟩) l.length l.length) l.length (encL enc l) := by
  have hl : cs.toList.length = l.length * n := by rw [hcs, encL_length hn]
  refine ⟨encL_length hn l, .inr ⟨g, l.length, cs, rfl, hb, hg, Nat.le_refl _, hm, by simpa using hl, ?_⟩⟩
  rw [← hcs, List.take_of_length_le (by omega)]
set_option maxRecDepth 100000 in
theorem let_at (j : Nat) (h : j < 6) : ∀ W : World, (Instr.slice 9 (.string ⟨#[67, 76, 82, 84, 80, 86]⟩) (some (.int .i64 (j : Int))) (some (.int .i64 ((j : Int) + 1))) none).run Tryd.prog W = .ok (.string ⟨([Post.letters.getD j 0] : List UInt8).toArray⟩) W := by
  match j, h with
  | 0, _ => exact fun W => by kernel_rfl
  | 1, _ => exact fun W => by kernel_rfl
  | 2, _ => exact fun W => by kernel_rfl
  | 3, _ => exact fun W => by kernel_rfl
  | 4, _ => exact fun W => by kernel_rfl
  | 5, _ => exact fun W => by kernel_rfl
theorem join_any (l : List (List UInt8)) (sep : List UInt8) (v : Value) (w : World) (h : LS StrC 1 w v l) (hlen : (Lib.join l sep).length ≤ 140737488355328) (hll : l.length ≤ 1000) :
    Calls Tryd.prog 75 #[v, .string ⟨sep.toArray⟩] w fun e w' => e = .returned (.string ⟨(Lib.join l sep).toArray⟩) ∧ Below w.heap.size w w' := by
  obtain ⟨p, cap, rfl, h1, h2, h3⟩ := h
  by_cases hl : l = []
  · subst hl
    exact (Tryd.strings_Join_none p cap ⟨sep.toArray⟩ w).mono fun e w' ⟨he, hw⟩ => ⟨he, by rw [hw]; exact Below.refl _ _⟩
  · obtain ⟨b, o, rfl, hb, hr⟩ := h3 hl
    have hm : (l.map fun x => (⟨x.toArray⟩ : ByteArray)).map (·.data.toList) = l := by rw [List.map_map]; exact (List.map_congr_left fun x _ => by simp).trans (List.map_id l)
    have h0 := Tryd.strings_Join b o cap (l.map fun x => (⟨x.toArray⟩ : ByteArray)) ⟨sep.toArray⟩ w (fun j x hx => by
      rw [List.getElem?_map] at hx
      obtain ⟨y, hy, rfl⟩ := Option.map_eq_some_iff.1 hx
      have := hr j y hy
      have h4 := this 0 (.string ⟨y.toArray⟩) rfl
      simpa using h4) hb (by rw [List.length_map]; omega) (by rw [List.length_map]; exact h1) (by rw [hm]; simpa using hlen)
    rw [hm, List.length_map] at h0
    simpa using h0
set_option maxRecDepth 4000 in
set_option maxHeartbeats 2000000 in
theorem pText_any (d t s k a0 a1 a2 a3 a4 a5 : Int) (ht0 : 0 ≤ t) (ht1 : t ≤ 18446744073709551615) (w : World) (ht : Tab w) :
    Calls Tryd.prog 26 #[.agg #[.int .i64 d, .int .u64 t, .int .i64 s, .int .i64 k, .int .i64 a0, .int .i64 a1, .int .i64 a2, .int .i64 a3, .int .i64 a4, .int .i64 a5]] w fun e w' => e = .returned (.string (Post.textB d t s k [a0, a1, a2, a3, a4, a5])) ∧ Below w.heap.size w w' := by
  have HMY := Lib.hid (fun W => may_any d t s k a0 a1 a2 a3 a4 a5 ht0 ht1 W)
  have HT := Lib.hid ht
  obtain ⟨q, hq⟩ : ∃ q, Post.may d t s k [a0, a1, a2, a3, a4, a5] = q := ⟨_, rfl⟩
  have HRS : Hid (Post.textB d t s k [a0, a1, a2, a3, a4, a5] = if q = true then ⟨(Post.textL d t s k [a0, a1, a2, a3, a4, a5]).toArray⟩ else ⟨#[]⟩) := Lib.hid (by unfold Post.textB; rw [hq])
  rw [hq] at HMY
  have HQ := Lib.hid hq
  clear hq ht
  generalize Post.textB d t s k [a0, a1, a2, a3, a4, a5] = RS at *
  cases q
  · go_enter Tryd.func26, Tryd.ntmps26
    go_wp2_with fail
    refine (HMY.out _).mono ?_
    rintro e w1 ⟨rfl, hbm⟩
    have HB1 := Lib.hid (((Below.refl w.heap.size w).alloc (Nat.le_refl _) (.cells #[.int .i64 d, .int .u64 t, .int .i64 s, .int .i64 k, .int .i64 a0, .int .i64 a1, .int .i64 a2, .int .i64 a3, .int .i64 a4, .int .i64 a5] 49)).trans (hbm.mono (by simp)))
    clear hbm
    go_wp2
    go_ret
    exact ⟨ret_string HRS.out.symm, HB1.out⟩
  · obtain ⟨⟨k1, k5⟩, hd, hs, hck, ha⟩ := may_facts HQ.out
    have HD : Hid (∀ W : World, Calls Tryd.prog 72 #[.int .u64 t] W fun e w' => e = .returned (.string ⟨(Dec.digits t.toNat).toArray⟩) ∧ Below W.heap.size W w') := Lib.hid (fun W => by
      have h1 := text_any t ht0 ht1 W
      rw [if_pos hck, ← Num.digits_text (n := t.toNat) (by have := Num.check_zero hck; omega) (by have := Num.check_zero hck; omega)] at h1
      exact h1)
    have HS1 := Lib.hid (fun W hW => itoa_any s (by omega) (by omega) W hW)
    have HS2 := Lib.hid (fun W hW => itoa_any d (by omega) (by omega) W hW)
    have HOF : Hid (∀ am, am = [a0, a1, a2, a3, a4, a5] → ∀ W : World, Calls Tryd.prog 63 #[.agg #[.int .i64 d, .int .u64 t, .int .i64 s, .int .i64 k, .int .i64 a0, .int .i64 a1, .int .i64 a2, .int .i64 a3, .int .i64 a4, .int .i64 a5]] W fun e w' => e = .returned (.agg (Post.amRow am)) ∧ Below W.heap.size W w') := Lib.hid (fun am e W => by rw [e]; exact of_post_any d t s k a0 a1 a2 a3 a4 a5 W)
    obtain ⟨am, hamd⟩ : ∃ am, am = [a0, a1, a2, a3, a4, a5] := ⟨_, rfl⟩
    have hal : am.length = 6 := by rw [hamd]; rfl
    have HOP := Lib.hid (HOF.out am hamd)
    clear HOF
    rw [← hamd] at HRS ha
    have HA := Lib.hid ha
    have HLEN := Lib.hid (Post.textJ_len d t s k am (by omega) (by omega) (by omega) (fun x hx => by have := ha x hx; omega))
    have HTL : Hid (RS = ⟨(Lib.join (Post.heads d t s k ++ Post.tparts am 6) [32]).toArray⟩) := Lib.hid HRS.out
    have HLEN6 : Hid ((Lib.join (Post.heads d t s k ++ Post.tparts am 6) [32]).length ≤ 300) := Lib.hid (by have := HLEN.out 6; unfold Post.textJ at this; omega)
    have HPL := Lib.hid (Post.tparts_len am)
    have HHL : Hid ((Post.heads d t s k).length = 4) := Lib.hid rfl
    have HPS := Lib.hid (Post.tparts_succ am)
    clear hck ha hamd HRS HQ HLEN
    go_enter Tryd.func26, Tryd.ntmps26
    go_wp2_with fail
    have hrp : (w.alloc (.cells #[.int .i64 d, .int .u64 t, .int .i64 s, .int .i64 k, .int .i64 a0, .int .i64 a1, .int .i64 a2, .int .i64 a3, .int .i64 a4, .int .i64 a5] 49)).heap[w.heap.size]? = some (.cells #[.int .i64 d, .int .u64 t, .int .i64 s, .int .i64 k, .int .i64 a0, .int .i64 a1, .int .i64 a2, .int .i64 a3, .int .i64 a4, .int .i64 a5] 49 (0, 0)) := new_rowW _ _ _ rfl
    have HBP := Lib.hid ((Below.refl w.heap.size w).alloc (Nat.le_refl _) (.cells #[.int .i64 d, .int .u64 t, .int .i64 s, .int .i64 k, .int .i64 a0, .int .i64 a1, .int .i64 a2, .int .i64 a3, .int .i64 a4, .int .i64 a5] 49))
    generalize w.alloc (.cells #[.int .i64 d, .int .u64 t, .int .i64 s, .int .i64 k, .int .i64 a0, .int .i64 a1, .int .i64 a2, .int .i64 a3, .int .i64 a4, .int .i64 a5] 49) = W0 at *
    refine (HMY.out _).mono ?_
    rintro e w1 ⟨rfl, hbm⟩
    have HRW := Lib.hid ((hbm.block _ (block_lt hrp)).trans hrp)
    have HB1 := Lib.hid (HBP.out.trans (hbm.mono HBP.out.size))
    clear hbm hrp
    have hc1 := fun j => cell_of_row w1 w.heap.size j _ _ _ HRW.out
    have HLK := Lib.hid (fun W => look_any k W)
    have HNM : Hid (Str (Post.name k) = ⟨(Post.name k).toArray⟩) := Lib.hid rfl
    generalize Str (Post.name k) = nm at *
    generalize Str (Post.signs k) = sg at *
    go_upto_region 4 with (go_at_call 68; refine (HLK.out _).mono ?_; rintro e wl ⟨rfl, rfl⟩)
    clear hc1
    have HHD : Hid (encL StrC (Post.heads d t s k) = [.string nm, .string ⟨(Dec.digits t.toNat).toArray⟩, .string ⟨(Post.sdig s).toArray⟩, .string ⟨(Post.sdig d).toArray⟩]) := Lib.hid (by rw [HNM.out]; rfl)
    generalize hDD : (⟨(Dec.digits t.toNat).toArray⟩ : ByteArray) = DD at *
    generalize hS1 : (⟨(Post.sdig s).toArray⟩ : ByteArray) = SS at *
    generalize hS2 : (⟨(Post.sdig d).toArray⟩ : ByteArray) = SD at *
    clear hDD hS1 hS2
    have hcu := fun (u : Later w1) (j : Nat) => (u.cell w.heap.size j (block_lt HRW.out)).trans (cell_of_row w1 w.heap.size j _ _ _ HRW.out)
    have htu := fun (u : Later w1) => HT.out.below (HB1.out.trans (u.prop.mono HB1.out.size))
    have HTU := Lib.hid htu
    clear htu
    refine wp_region_later_tail 10 (by kernel_rfl) (by kernel_rfl) ?_
    simp only [List.take_succ_cons, List.take_zero, List.drop_succ_cons, List.drop_zero]
    repeat (go_big_quiet_step (first | (go_at_call 72; exact later_call (HD.out _)) | (go_at_call 73; first | with_reducible exact later_call (HS1.out _ (HTU.out _)) | with_reducible exact later_call (HS2.out _ (HTU.out _)))))
    refine wpQuiet_nil ?_
    rintro w3 ⟨u, rfl⟩
    have HB3 := Lib.hid (HB1.out.trans (u.prop.mono HB1.out.size))
    have HR3 := Lib.hid ((u.prop.block _ (block_lt HRW.out)).trans HRW.out)
    clear hcu
    generalize u.val = w3 at *
    go_upto_region 5 with fail
    have hbn := (Below.refl w3.heap.size w3).alloc (Nat.le_refl _) (.cells #[.string nm, .string DD, .string SS, .string SD] 9)
    have HB4 := Lib.hid (HB3.out.trans (hbn.mono HB3.out.size))
    have HR4 := Lib.hid ((hbn.block _ (block_lt HR3.out)).trans HR3.out)
    have HO4 : Hid ((w3.alloc (.cells #[.string nm, .string DD, .string SS, .string SD] 9)).ownsRow w.heap.size 9 1 (.slice (some ⟨w3.heap.size, 0, none⟩) 4 4) 4 (encL StrC (Post.heads d t s k))) := Lib.hid (own_full (l := Post.heads d t s k) (new_rowW _ _ _ rfl) HB3.out.size StrC_length (by rw [HHD.out]) (by decide) (by rw [HHL.out]; unfold maxLen; decide))
    clear hbn
    generalize w3.alloc (.cells #[.string nm, .string DD, .string SS, .string SD] 9) = w4 at *
    generalize w3.heap.size = gh at *
    have hc4 := fun j => cell_of_row w4 w.heap.size j _ _ _ HR4.out
    go_wp2_with fail
    clear hc4
    refine (HOP.out _).mono ?_
    rintro e w5 ⟨rfl, hb5⟩
    have HB5 := Lib.hid (HB4.out.trans (hb5.mono HB4.out.size))
    have HO5 := Lib.hid (recs_below HO4.out hb5)
    clear hb5
    have HTW := Lib.hid (fun W hW => HT.out.below (w' := W) hW)
    have HHA : Hid (Post.heads d t s k ++ Post.tparts am 0 = Post.heads d t s k) := Lib.hid (by rw [Post.tparts_zero, List.append_nil])
    generalize Post.heads d t s k = hds at *
    go_wp2_with fail
    go_loopw [5, 30] (fun v i wr => ∃ (j n : Nat) (q : Option Addr) (z : Nat), j ≤ 6 ∧ i = .int .i64 j ∧ v = .slice q n z ∧ n ≤ 10 ∧ wr.ownsRow w.heap.size 9 1 (.slice q n z) n (encL StrC (hds ++ Post.tparts am j)) ∧ Below w.heap.size w wr) (fun _ i _ => 6 - (intOf i).toNat)
    case atStart => exact ⟨0, 4, _, _, by omega, rfl, rfl, by omega, by rw [HHA.out]; exact HO5.out, HB5.out⟩
    case round =>
      obtain ⟨j, nl, q, zc, hj, rfl, rfl, hnl, ho, hb⟩ := hrel
      have HB := Lib.hid hb; have HO := Lib.hid ho
      have HNL := Lib.hid hnl
      clear hb ho hnl
      by_cases hlt : j < 6
      · have hix := fun W => run_am_at am hal j hlt W
        have HFZ := Lib.hid (fun W hW => fint_any (am.getD j 0) (by have := am_bd HA.out j; omega) (by have := am_bd HA.out j; omega) W hW)
        have hzz : (⟨(Post.sdig (am.getD j 0)).toArray⟩ : ByteArray).size ≤ 21 := by rw [size_string]; exact Post.sdig_len _ (by have := am_bd HA.out j; omega)
        have HPJ := Lib.hid (HPS.out j)
        have HTP : Hid (Post.tpart am j = if am.getD j 0 = 0 then [] else [Post.letters.getD j 0 :: Post.sdig (am.getD j 0)]) := Lib.hid rfl
        generalize am.getD j 0 = z at *
        obtain ⟨nz, hnz⟩ : ∃ b, (z != 0) = b := ⟨_, rfl⟩
        cases nz
        · have HN : Hid (Post.tparts am (j + 1) = Post.tparts am j) := Lib.hid (by rw [HPJ.out, HTP.out, if_pos (by simpa using hnz)]; simp)
          clear hzz
          go_wp2_with fail
          go_roundw
          case rel => exact ⟨j + 1, nl, _, _, by omega, by go_num, rfl, HNL.out, by rw [HN.out]; exact HO.out, HB.out⟩
          case measure => simp [intOf]; omega
        · have HTQ : Hid (Post.tparts am (j + 1) = Post.tparts am j ++ [Post.letters.getD j 0 :: Post.sdig z]) := Lib.hid (by rw [HPJ.out, HTP.out, if_neg (by simpa using hnz)])
          have hsl := let_at j hlt
          rw [show ((j : Int) + 1) = IntKind.i64.wrap ((j : Int) + 1) from by rw [IntKind.wrap_i64]; omega] at hsl
          have HN : Hid ((⟨([Post.letters.getD j 0] : List UInt8).toArray⟩ : ByteArray) ++ ⟨(Post.sdig z).toArray⟩ = ⟨(Post.letters.getD j 0 :: Post.sdig z).toArray⟩) := Lib.hid (by rw [app_string]; rfl)
          have hz5 : (⟨([Post.letters.getD j 0] : List UInt8).toArray⟩ : ByteArray).size ≤ 1 := by rw [size_string]; simp
          generalize (⟨([Post.letters.getD j 0] : List UInt8).toArray⟩ : ByteArray) = LT at *
          generalize hSZ : (⟨(Post.sdig z).toArray⟩ : ByteArray) = SZ at *
          clear hSZ
          have hcat : ¬ 9223372036854775807 < LT.size + SZ.size := by omega
          go_upto_region 9 with fail
          refine wp_region_G (C := fun _ => True) (s0 := 6) (by kernel_rfl) ?_
          have HO := Lib.hid (recs_below HO.out (Below.refl wr.heap.size wr).drew)
          have HB := Lib.hid HB.out.drew
          generalize wr.drew = wd at *
          have hHeld : True := trivial
          refine wpAnyG_takeU (i := 0) (oi := { dst := some 36, op := Op.move (Operand.tmp 5), type := 62, pos := "posting.go:162", after := #[], guard := none }) (v := ?_) rfl (by kernel_rfl) (by kernel_rfl) (by kernel_rfl) (by decide) (fun _ _ _ h => h) (Or.inl ⟨by rfl, ?_⟩) (.inl (by assumption)) ?_
          rotate_left
          · intro w hSw; go_simp; try with_reducible rfl
          try simp only [Act.put, List.setIfInBounds_toArray, List.set_cons_zero, List.set_cons_succ]
          refine wpAnyG_takeU (i := 1) (oi := { dst := some 37, op := Op.move (Operand.tmp 6), type := 3, pos := "posting.go:162", after := #[], guard := none }) (v := ?_) rfl (by kernel_rfl) (by kernel_rfl) (by kernel_rfl) (by decide) (fun _ _ _ h => h) (Or.inl ⟨by rfl, ?_⟩) (.inl (by assumption)) ?_
          rotate_left
          · intro w hSw; go_simp; try with_reducible rfl
          try simp only [Act.put, List.setIfInBounds_toArray, List.set_cons_zero, List.set_cons_succ]
          refine wpAnyG_takeU (i := 2) (oi := { dst := some 38, op := Op.move (Operand.tmp 6), type := 3, pos := "posting.go:162", after := #[], guard := none }) (v := ?_) rfl (by kernel_rfl) (by kernel_rfl) (by kernel_rfl) (by decide) (fun _ _ _ h => h) (Or.inl ⟨by rfl, ?_⟩) (.inl (by assumption)) ?_
          rotate_left
          · intro w hSw; go_simp; try with_reducible rfl
          try simp only [Act.put, List.setIfInBounds_toArray, List.set_cons_zero, List.set_cons_succ]
          refine wpAnyG_takeU (i := 3) (oi := { dst := some 39, op := Op.binOp BinOp.add 3 (Operand.tmp 38) (Operand.const (Value.int IntKind.i64 1)) 3, type := 3, pos := "posting.go:162", after := #[{ on := 2, ground := Ground.data }], guard := none }) (v := ?_) rfl (by kernel_rfl) (by kernel_rfl) (by kernel_rfl) (by decide) (fun _ _ _ h => h) (Or.inl ⟨by rfl, ?_⟩) (.inl (by assumption)) ?_
          rotate_left
          · intro w hSw; go_simp; try with_reducible rfl
          try simp only [Act.put, List.setIfInBounds_toArray, List.set_cons_zero, List.set_cons_succ]
          refine wpAnyG_takeU (i := 4) (oi := { dst := some 40, op := Op.slice 9 (Operand.const (Value.string { data := #[67, 76, 82, 84, 80, 86] })) (some (Operand.tmp 37)) (some (Operand.tmp 39)) none, type := 9, pos := "posting.go:162", after := #[{ on := 1, ground := Ground.data }, { on := 3, ground := Ground.data }], guard := none }) (v := ?_) rfl (by kernel_rfl) (by kernel_rfl) (by kernel_rfl) (by decide) (fun _ _ _ h => h) (Or.inl ⟨by rfl, ?_⟩) (.inl (by assumption)) ?_
          rotate_left
          · intro w hSw; go_simp; try with_reducible rfl
          try simp only [Act.put, List.setIfInBounds_toArray, List.set_cons_zero, List.set_cons_succ]
          refine wpAnyG_takeU (i := 5) (oi := { dst := some 41, op := Op.move (Operand.tmp 7), type := 2, pos := "posting.go:162", after := #[], guard := none }) (v := ?_) rfl (by kernel_rfl) (by kernel_rfl) (by kernel_rfl) (by decide) (fun _ _ _ h => h) (Or.inl ⟨by rfl, ?_⟩) (.inl (by assumption)) ?_
          rotate_left
          · intro w hSw; go_simp; try with_reducible rfl
          try simp only [Act.put, List.setIfInBounds_toArray, List.set_cons_zero, List.set_cons_succ]
          refine wpAnyG_one (i := 6) (o := { dst := some 42, op := Op.call { callee := Callee.value (Operand.func 74), args := #[Operand.tmp 41, Operand.const (Value.int IntKind.i64 10)], argTypes := #[2, 3] }, type := 9, pos := "posting.go:162", after := #[{ on := 5, ground := Ground.data }], guard := none }) (by kernel_rfl) rfl (fun K hK => ?_)
          go_simp
          go_at_call 74
          refine (HFZ.out _ (HTW.out _ HB.out)).mono ?_
          rintro e w6 ⟨rfl, hb6⟩
          have HB := Lib.hid (HB.out.trans (hb6.mono HB.out.size))
          have HO := Lib.hid (recs_below HO.out hb6)
          clear hb6
          refine hK.out _ _ (.inr rfl) ?_
          clear hK K
          try simp only [Act.put, List.setIfInBounds_toArray, List.set_cons_zero, List.set_cons_succ]
          refine wpAnyG_takeU (i := 7) (oi := { dst := some 43, op := Op.binOp BinOp.add 9 (Operand.tmp 40) (Operand.tmp 42) 9, type := 9, pos := "posting.go:162", after := #[{ on := 4, ground := Ground.data }, { on := 6, ground := Ground.data }], guard := none }) (v := ?_) rfl (by kernel_rfl) (by kernel_rfl) (by kernel_rfl) (by decide) (fun _ _ _ h => h) (Or.inl ⟨by rfl, ?_⟩) (.inr rfl) ?_
          rotate_left
          · intro w hSw; go_simp; try with_reducible rfl
          try simp only [Act.put, List.setIfInBounds_toArray, List.set_cons_zero, List.set_cons_succ]
          refine wpAnyG_one (i := 8) (o := { dst := some 44, op := Op.buildSlice 62 1 #[(0, Operand.tmp 43)], type := 62, pos := "posting.go:162", after := #[{ on := 7, ground := Ground.data }], guard := none }) (by kernel_rfl) rfl (fun K hK => ?_)
          go_simp
          have hbn := (Below.refl w6.heap.size w6).alloc (Nat.le_refl _) (.cells #[.string (LT ++ SZ)] 9)
          have HO7 := Lib.hid (recs_below HO.out hbn)
          have HR7 := Lib.hid (new_rowW w6 (.cells #[.string (LT ++ SZ)] 9) _ rfl)
          have HB7 := Lib.hid (HB.out.trans (hbn.mono HB.out.size))
          clear hbn
          refine hK.out _ _ (.inr rfl) ?_
          clear hK K
          try simp only [Act.put, List.setIfInBounds_toArray, List.set_cons_zero, List.set_cons_succ]
          refine wpAnyG_one (i := 9) (o := { dst := some 45, op := Op.call { callee := Callee.builtin Builtin.append, args := #[Operand.tmp 36, Operand.tmp 44], argTypes := #[62, 62] }, type := 62, pos := "posting.go:162", after := #[{ on := 0, ground := Ground.data }, { on := 8, ground := Ground.data }, { on := 6, ground := Ground.chain }], guard := none }) (by kernel_rfl) rfl (fun K hK => ?_)
          refine step_append_recs elemSt rfl _ _ rfl w.heap.size _ nl _ rfl HO7.out _ [Post.letters.getD j 0 :: Post.sdig z] rfl (row_one (enc := StrC) (x := Post.letters.getD j 0 :: Post.sdig z) HR7.out (by rw [HN.out]; rfl) StrC_length (by decide)) (by have := HNL.out; simp; omega) HB7.out.size ?_
          intro v8 w8 hown8 hg8 _
          rw [show nl + [(Post.letters.getD j 0 :: Post.sdig z : List UInt8)].length = nl + 1 from rfl] at hown8
          obtain ⟨q8, z8, rfl⟩ := rec_formT hown8
          have HO8 := Lib.hid hown8
          have HB8 := Lib.hid (HB7.out.grown hg8 HB7.out.size (fun b hb => (recs_base HO7.out hb).1))
          clear hown8 hg8
          refine hK.out _ _ (.inr rfl) ?_
          clear hK K
          try simp only [Act.put, List.setIfInBounds_toArray, List.set_cons_zero, List.set_cons_succ]
          refine wpAnyG_takeU (i := 10) (oi := { dst := some 5, op := Op.assign (Operand.tmp 45), type := 62, pos := "posting.go:162", after := #[{ on := 9, ground := Ground.data }, { on := 9, ground := Ground.chain }, { on := 0, ground := Ground.phase }, { on := 1, ground := Ground.phase }, { on := 2, ground := Ground.phase }, { on := 3, ground := Ground.phase }, { on := 4, ground := Ground.phase }, { on := 5, ground := Ground.phase }, { on := 6, ground := Ground.phase }, { on := 7, ground := Ground.phase }, { on := 8, ground := Ground.phase }, { on := 9, ground := Ground.phase }], guard := none }) (v := ?_) rfl (by kernel_rfl) (by kernel_rfl) (by kernel_rfl) (by decide) (fun _ _ _ h => h) (Or.inl ⟨by rfl, ?_⟩) (.inr rfl) ?_
          rotate_left
          · intro w hSw; go_simp; try with_reducible rfl
          try simp only [Act.put, List.setIfInBounds_toArray, List.set_cons_zero, List.set_cons_succ]
          refine wpAnyG_done (by kernel_rfl) ?_ _
          go_wp2_with fail
          go_roundw
          case rel => exact ⟨j + 1, nl + 1, _, _, by omega, by go_num, rfl, by have h1 := HO8.out.1; rw [encL_length StrC_length] at h1; have := HHL.out; have := HPL.out j; simp only [List.length_append, List.length_cons, List.length_nil] at h1; omega, by rw [HTQ.out, ← List.append_assoc]; exact HO8.out, HB8.out⟩
          case measure => simp [intOf]; omega
      · obtain rfl : j = 6 := by omega
        have HJ := Lib.hid (join_any _ [32] _ wr (LS.of_own HO.out StrC_length (by decide)) (by have := HLEN6.out; omega) (by have h1 := HO.out.1; rw [encL_length StrC_length] at h1; have := HNL.out; omega))
        go_wp2_with (go_at_call 75; refine HJ.out.mono ?_; rintro e wj ⟨rfl, hbj⟩)
        go_ret
        exact ⟨ret_string HTL.out.symm, HB.out.trans (hbj.mono HB.out.size)⟩
end Go.Proofs.YtellhmbebimenaaDoor
