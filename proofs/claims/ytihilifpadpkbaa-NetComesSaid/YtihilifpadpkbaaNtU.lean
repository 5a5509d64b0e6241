/- What an act does to a net and to the reference's, side by side: Tick; and all acts. -/
import Derived.Test.YtihilifpadpkbaaNtS
set_option linter.unusedVariables false
set_option linter.unusedSimpArgs false
namespace Go.Proofs.Ytihilifpadpkbaa
open Go.RowKit Nt

section
variable (w : World) (B g r : Nat) (k : Int) (calm : Bool) (v lv av : Value) (all : List Hd)
set_option maxRecDepth 4000 in
set_option maxHeartbeats 8000000 in
theorem doTick_any (T : Two w B g r k calm v lv av all) (hk : 1 ≤ k) (hk2 : k ≤ 64) (a : Ac) (ha : ∀ x ∈ a.ls, x.fit) (p1 : Option Addr) (n1 c1 : Nat) (p2 : Option Addr) (n2 c2 : Nat) (hl : LS Lt.cells 15 w (.slice p1 n1 c1) a.ls) (hp : LS intC 1 w (.slice p2 n2 c2) a.ps)
    (bl : a.ls ≠ [] → ∀ b, (Value.slice p1 n1 c1).ownBlock = some b → b < B) (bp : a.ps ≠ [] → ∀ b, (Value.slice p2 n2 c2).ownBlock = some b → b < B) (hB : B ≤ w.heap.size) (hln : all.length ≤ 2000) (hag : ∀ x ∈ all, 0 ≤ x.age ∧ x.age < k) (hal : a.ls.length ≤ 20) (h2 : a.kind = 2) :
    Calls Try.prog 17 #[.pointer (some ⟨g, 0, none⟩), .pointer (some ⟨r, 0, none⟩), .agg #[.int .i64 a.kind, .slice p1 n1 c1, .slice p2 n2 c2, .bool a.is]] w fun e w' => e = .returned (.bool true) ∧ Done w B g r k v lv av (Nt.step k (calm, all) a) w' := by
  have HX := Lib.hid (new_rowW w (.cells #[.int .i64 2, .slice p1 n1 c1, .slice p2 n2 c2, .bool a.is] 53 (0, 0)) _ rfl)
  have hcx := fun j => cell_of_row _ w.heap.size j _ _ _ HX.out
  have HXD := Lib.hid (row_drew HX.out)
  have HTD := Lib.hid (T.below (((Below.refl w.heap.size w).alloc (Nat.le_refl _) (.cells #[.int .i64 2, .slice p1 n1 c1, .slice p2 n2 c2, .bool a.is] 53 (0, 0))).drew))
  have HPD := Lib.hid (hp.below (((Below.refl w.heap.size w).alloc (Nat.le_refl _) (.cells #[.int .i64 2, .slice p1 n1 c1, .slice p2 n2 c2, .bool a.is] 53 (0, 0))).drew))
  have HTW := Lib.hid (((Turn.refl (Fo g r v) w).alloc (.cells #[.int .i64 2, .slice p1 n1 c1, .slice p2 n2 c2, .bool a.is] 53 (0, 0))).drew)
  have HGW : Hid (g < w.heap.size ∧ r < w.heap.size ∧ B ≤ g ∧ B ≤ r ∧ (w.alloc (.cells #[.int .i64 2, .slice p1 n1 c1, .slice p2 n2 c2, .bool a.is] 53 (0, 0))).drew.heap.size = w.heap.size + 1) := Lib.hid ⟨block_lt T.nn.2.1, block_lt T.rr.row, T.nn.1, T.rr.b, by simp⟩
  have HBP := Lib.hid bp
  have HAL : Hid (all.length ≤ 10000 ∧ ∀ x ∈ all, 0 ≤ x.age ∧ x.age ≤ 1000) := Lib.hid ⟨by omega, fun x hx => by have := hag x hx; omega⟩
  have HAL0 : Hid (B ≤ (w.alloc (.cells #[.int .i64 2, .slice p1 n1 c1, .slice p2 n2 c2, .bool a.is] 53 (0, 0))).drew.heap.size) := Lib.hid (by simp; omega)
  have hk0 : 0 < k := by omega
  have HS : Hid (Nt.step k (calm, all) a = (calm, (stay k calm a.ps all))) := Lib.hid (by unfold Nt.step; rw [if_neg (by omega), if_pos h2])
  rw [h2]
  clear T ha hl hp bl bp hag
  go_enter Try.func17, Try.ntmps17
  go_wp2_with fail
  have hbx : (w.alloc (.cells #[.int .i64 2, .slice p1 n1 c1, .slice p2 n2 c2, .bool a.is] 53 (0, 0))).drew.cell? ⟨w.heap.size, 2, none⟩ = some (.slice p2 n2 c2) := cell_of_row _ w.heap.size 2 _ _ _ HXD.out
  clear hcx
  go_region_held3 (fun w' => w'.cell? ⟨w.heap.size, 2, none⟩ = some (.slice p2 n2 c2)) (first | exact hbx | go_keep) (first
    | (go_at_call 13; refine (ntk_any a.ps p2 n2 c2 w1 B g k calm v all HNB.out hk0 HPB.out HAL.out.1 HAL.out.2 (by have h1 := HAL0.out; have h2 := HTB1.out.size; omega)).mono ?_; rintro e w2 ⟨q1, m1, d1, v1, rfl, hl1, hf1, hn1, hv1, ht1⟩; have HXF := Lib.hid ((ht1.block _ (block_lt HXB.out) (by have := HGW.out; omega)).trans HXB.out); have hbx : w2.cell? ⟨w.heap.size, 2, none⟩ = some (.slice p2 n2 c2) := cell_of_row _ w.heap.size 2 _ _ _ HXF.out; have HL2 := Lib.hid (HLB.out.turn ht1 (fun b hb e => by have h1 := HFB.out b hb; have h2 := HGW.out; omega)); have HL1 := Lib.hid hl1; have HDD : Hid (∃ v' lv' av', Two w2 B g r k calm v' lv' av' (stay k calm a.ps all) ∧ (∀ b, v'.ownBlock = some b → w.heap.size ≤ b) ∧ (∀ b, lv'.ownBlock = some b → w.heap.size ≤ b) ∧ (∀ b, av'.ownBlock = some b → w.heap.size ≤ b)) := Lib.hid ⟨v1, lv2, av2, ⟨hn1, HRB.out.turn ht1 (fun e => HTD.out.ne e.symm) (fun b hb e => by have h1 := (HVB.out.1 b hb).1; have h2 := HGW.out; omega) (fun b hb e => by have h1 := (HVB.out.2 b hb).1; have h2 := HGW.out; omega), HTD.out.ne, (fun e => by have h1 := hv1 r e; have h2 := HGW.out; have h3 := HTB1.out.size; omega), (fun i hi => ⟨by have h1 := (HVB.out.1 i hi).1; have h2 := HGW.out; omega, fun e => by have h1 := (HVB.out.1 i hi).2; have h2 := hv1 i e; omega⟩), (fun i hi => ⟨by have h1 := (HVB.out.2 i hi).1; have h2 := HGW.out; omega, fun e => by have h1 := (HVB.out.2 i hi).2; have h2 := hv1 i e; omega⟩)⟩, (fun b hb => by have h1 := hv1 b hb; have h2 := HGW.out; have h3 := HTB1.out.size; omega), (fun b hb => by have h1 := (HVB.out.1 b hb).1; have h2 := HGW.out; omega), (fun b hb => by have h1 := (HVB.out.2 b hb).1; have h2 := HGW.out; omega)⟩; have HTT : Hid (Turn (Fo g r v) w w2) := Lib.hid ((HTW.out.trans (HTB1.out.mono (fun i _ e => .inr (.inl e)))).trans (ht1.mono (fun i _ e => .inl e))); clear hl1 hf1 hn1 hv1 ht1)
    | (go_at_call 13; refine (ntk_any a.ps p2 n2 c2 _ B g k calm v all HTD.out.nn hk0 HPD.out HAL.out.1 HAL.out.2 HAL0.out).mono ?_; rintro e w1 ⟨q1, m1, d1, v1, rfl, hl1, hf1, hn1, hv1, ht1⟩; have HXA := Lib.hid ((ht1.block _ (block_lt HXD.out) (by have := HGW.out; omega)).trans HXD.out); have hbx : w1.cell? ⟨w.heap.size, 2, none⟩ = some (.slice p2 n2 c2) := cell_of_row _ w.heap.size 2 _ _ _ HXA.out; have HRA := Lib.hid (HTD.out.rr.turn ht1 (fun e => HTD.out.ne e.symm) (fun b hb e => (HTD.out.lg b hb).1 e) (fun b hb e => (HTD.out.ag b hb).1 e)); have HPA := Lib.hid (HPD.out.turnE ht1 (fun hne b hb e => by have h1 := HBP.out hne b hb; have h2 := HGW.out; omega)); have HNA := Lib.hid hn1; have HLA := Lib.hid hl1; have HFA := Lib.hid hf1; have HVA := Lib.hid (fun b hb => And.intro (hv1 b hb) (recs_base hn1.2.2.1 hb).2); have HTA1 := Lib.hid ht1; clear hl1 hf1 hn1 hv1 ht1)
    | (go_at_call 35; refine (rtk_any a.ps p2 n2 c2 w1 B r k calm lv av all HRA.out HPA.out HAL.out.1 HAL.out.2).mono ?_; rintro e w2 ⟨q2, m2, d2, lv2, av2, rfl, hl2, hf2, hr2, hlv, hav, ht2⟩; have HXF := Lib.hid ((ht2.block _ (block_lt HXA.out) (by have := HGW.out; omega)).trans HXA.out); have hbx : w2.cell? ⟨w.heap.size, 2, none⟩ = some (.slice p2 n2 c2) := cell_of_row _ w.heap.size 2 _ _ _ HXF.out; have HL1 := Lib.hid (HLA.out.turn ht2 (fun b hb e => by have h1 := HFA.out b hb; have h2 := HGW.out; omega)); have HL2 := Lib.hid hl2; have HDD : Hid (∃ v' lv' av', Two w2 B g r k calm v' lv' av' (stay k calm a.ps all) ∧ (∀ b, v'.ownBlock = some b → w.heap.size ≤ b) ∧ (∀ b, lv'.ownBlock = some b → w.heap.size ≤ b) ∧ (∀ b, av'.ownBlock = some b → w.heap.size ≤ b)) := Lib.hid ⟨v1, lv2, av2, ⟨HNA.out.turn ht2 HTD.out.ne (fun b hb e => by have h1 := (HVA.out b hb).1; have h2 := HGW.out; omega), hr2, HTD.out.ne, (fun e => by have h1 := (HVA.out r e).1; have h2 := HGW.out; omega), (fun i hi => ⟨by have h1 := hlv i hi; have h2 := HGW.out; have h3 := HTA1.out.size; omega, fun e => by have h1 := hlv i hi; have h2 := (HVA.out i e).2; omega⟩), (fun i hi => ⟨by have h1 := hav i hi; have h2 := HGW.out; have h3 := HTA1.out.size; omega, fun e => by have h1 := hav i hi; have h2 := (HVA.out i e).2; omega⟩)⟩, (fun b hb => by have h1 := (HVA.out b hb).1; have h2 := HGW.out; omega), (fun b hb => by have h1 := hlv b hb; have h2 := HGW.out; have h3 := HTA1.out.size; omega), (fun b hb => by have h1 := hav b hb; have h2 := HGW.out; have h3 := HTA1.out.size; omega)⟩; have HTT : Hid (Turn (Fo g r v) w w2) := Lib.hid ((HTW.out.trans (HTA1.out.mono (fun i _ e => .inl e))).trans (ht2.mono (fun i _ e => .inr (.inl e)))); clear hl2 hf2 hr2 hlv hav ht2)
    | (go_at_call 35; refine (rtk_any a.ps p2 n2 c2 _ B r k calm lv av all HTD.out.rr HPD.out HAL.out.1 HAL.out.2).mono ?_; rintro e w1 ⟨q2, m2, d2, lv2, av2, rfl, hl2, hf2, hr2, hlv, hav, ht2⟩; have HXB := Lib.hid ((ht2.block _ (block_lt HXD.out) (by have := HGW.out; omega)).trans HXD.out); have hbx : w1.cell? ⟨w.heap.size, 2, none⟩ = some (.slice p2 n2 c2) := cell_of_row _ w.heap.size 2 _ _ _ HXB.out; have HNB := Lib.hid (HTD.out.nn.turn ht2 HTD.out.ne (fun b hb e => HTD.out.vr (e ▸ hb))); have HPB := Lib.hid (HPD.out.turnE ht2 (fun hne b hb e => by have h1 := HBP.out hne b hb; have h2 := HGW.out; omega)); have HRB := Lib.hid hr2; have HLB := Lib.hid hl2; have HFB := Lib.hid hf2; have HVB := Lib.hid (And.intro (fun b hb => And.intro (hlv b hb) (hr2.lg b hb).2.1) (fun b hb => And.intro (hav b hb) (hr2.ag b hb).2.1)); have HTB1 := Lib.hid ht2; clear hl2 hf2 hr2 hlv hav ht2)
    | (go_at_call 26; refine (rSameLt_any (told k calm a.ps all) (told k calm a.ps all) true (by simp) q1 q2 m1 m2 d1 d2 w2 HL1.out HL2.out).mono ?_; rintro e w3 ⟨rfl, hb3⟩; have HXG := Lib.hid ((hb3.block _ (block_lt HXF.out)).trans HXF.out); have hbx : w3.cell? ⟨w.heap.size, 2, none⟩ = some (.slice p2 n2 c2) := cell_of_row _ w.heap.size 2 _ _ _ HXG.out; have HB3 := Lib.hid hb3; clear hb3))
  all_goals
    have HD2 : Hid (∃ v' lv' av', Two w3 B g r k calm v' lv' av' (stay k calm a.ps all) ∧ (∀ b, v'.ownBlock = some b → w.heap.size ≤ b) ∧ (∀ b, lv'.ownBlock = some b → w.heap.size ≤ b) ∧ (∀ b, av'.ownBlock = some b → w.heap.size ≤ b)) := Lib.hid (by obtain ⟨v', lv', av', h1, h2⟩ := HDD.out; exact ⟨v', lv', av', h1.below HB3.out, h2⟩)
    have HT3 := Lib.hid (HTT.out.trans (.of_below HB3.out))
    clear hbx
    go_wp2
    go_ret
    rw [HS.out]
    obtain ⟨v', lv', av', h1, h2, h3, h4⟩ := HD2.out
    exact ⟨rfl, ⟨⟨v', lv', av', h1, fun b hb => .inr (h2 b hb), fun b hb => .inr (h3 b hb), fun b hb => .inr (h4 b hb)⟩, HT3.out⟩⟩

theorem do_any (T : Two w B g r k calm v lv av all) (hk : 1 ≤ k) (hk2 : k ≤ 64) (a : Ac) (ha : ∀ x ∈ a.ls, x.fit) (p1 : Option Addr) (n1 c1 : Nat) (p2 : Option Addr) (n2 c2 : Nat) (hl : LS Lt.cells 15 w (.slice p1 n1 c1) a.ls) (hp : LS intC 1 w (.slice p2 n2 c2) a.ps)
    (bl : a.ls ≠ [] → ∀ b, (Value.slice p1 n1 c1).ownBlock = some b → b < B) (bp : a.ps ≠ [] → ∀ b, (Value.slice p2 n2 c2).ownBlock = some b → b < B) (hB : B ≤ w.heap.size) (hln : all.length ≤ 2000) (hag : ∀ x ∈ all, 0 ≤ x.age ∧ x.age < k) (hal : a.ls.length ≤ 20) :
    Calls Try.prog 17 #[.pointer (some ⟨g, 0, none⟩), .pointer (some ⟨r, 0, none⟩), .agg #[.int .i64 a.kind, .slice p1 n1 c1, .slice p2 n2 c2, .bool a.is]] w fun e w' => e = .returned (.bool true) ∧ Done w B g r k v lv av (Nt.step k (calm, all) a) w' := by
  by_cases h1 : a.kind = 1
  · by_cases h0 : a.ls = []
    · exact doSend0_any w B g r k calm v lv av all T hk hk2 a ha p1 n1 c1 p2 n2 c2 hl hp bl bp hB hln hag hal h1 h0
    · exact doSend_any w B g r k calm v lv av all T hk hk2 a ha p1 n1 c1 p2 n2 c2 hl hp bl bp hB hln hag hal h1 h0
  by_cases h2 : a.kind = 2
  · exact doTick_any w B g r k calm v lv av all T hk hk2 a ha p1 n1 c1 p2 n2 c2 hl hp bl bp hB hln hag hal h2
  by_cases h3 : a.kind = 3
  · exact doCalm_any w B g r k calm v lv av all T hk hk2 a ha p1 n1 c1 p2 n2 c2 hl hp bl bp hB hln hag hal h3
  · exact doNo_any w B g r k calm v lv av all T hk hk2 a ha p1 n1 c1 p2 n2 c2 hl hp bl bp hB hln hag hal h1 h2 h3
end
end Go.Proofs.Ytihilifpadpkbaa
