/- Plain facts for WireLists: an event's bytes; what a reader takes off them, whole or less the last byte. -/
import Derived.Test.YtfpcpnjegbmdbaaReadC
import Derived.Test.YtfpcpnjegbmdbaaPuts
set_option linter.unusedVariables false
set_option linter.unusedSimpArgs false
namespace Go.Proofs.Ytfpcpnjegbmdbaa
open Go.RowKit

theorem beVal_be (x k : Nat) (h : x < 256 ^ k) : beVal (Wire.be x k) = x := by
  have h1 : ∀ l : List UInt8, beVal l = Wire.ofBe l := by
    intro l
    unfold beVal Wire.ofBe
    congr 1
    funext n b
    unfold Wire.bstep
    omega
  rw [h1, Wire.ofBe_be, Nat.mod_eq_of_lt h]
theorem rSize_of {k : Nat} (hk : k = 1 ∨ k = 2 ∨ k = 4 ∨ k = 8) : rSize (k : Int) = true := by
  rcases hk with rfl | rfl | rfl | rfl <;> rfl
theorem rnumS_app (p t : List UInt8) (k : Nat) (hk : k = 1 ∨ k = 2 ∨ k = 4 ∨ k = 8) (hp : p.length = k) : rNumS (some (p ++ t)) (k : Int) = some t ∧ rNumV (some (p ++ t)) (k : Int) = beVal p := by
  have h := rTake_fit (l := p ++ t) (n := k) (by rw [List.length_append]; omega)
  unfold rNumS rNumV rBy
  rw [if_pos (rSize_of hk), if_pos (rSize_of hk), h.1, h.2]
  subst hp
  simp
theorem rnum_be (x k : Nat) (t : List UInt8) (hk : k = 1 ∨ k = 2 ∨ k = 4 ∨ k = 8) (hx : x < 256 ^ k) : rNumV (some (Wire.be x k ++ t)) (k : Int) = x ∧ rNumS (some (Wire.be x k ++ t)) (k : Int) = some t := by
  have h := rnumS_app (Wire.be x k) t k hk (Wire.be_length x k)
  exact ⟨by rw [h.2, beVal_be x k hx], h.1⟩
/-- too few bytes for a number -/
theorem rnum_short (p : List UInt8) (k : Nat) (hk : k = 1 ∨ k = 2 ∨ k = 4 ∨ k = 8) (hp : p.length < k) : rNumV (some p) (k : Int) = 0 ∧ rNumS (some p) (k : Int) = none := by
  have h := rTake_bad (st := some p) (n := (k : Int)) (fun l e => by injection e with e; subst e; omega)
  unfold rNumS rNumV rBy
  rw [if_pos (rSize_of hk), if_pos (rSize_of hk), h.1, h.2]
  exact ⟨rfl, rfl⟩
def encB (b : List UInt8) : List UInt8 := Wire.be b.length 4 ++ b
theorem rblob_enc (b t : List UInt8) (hb : b.length ≤ 16777216) : rBlobV (some (encB b ++ t)) = b ∧ rBlobS (some (encB b ++ t)) = some t := by
  have h := rnum_be b.length 4 (b ++ t) (by decide) (by omega)
  have h2 := rTake_fit (l := b ++ t) (n := b.length) (by rw [List.length_append]; omega)
  unfold rBlobV rBlobS encB
  rw [List.append_assoc]
  rw [show ((4 : Nat) : Int) = 4 from rfl] at h
  rw [h.1, h.2, if_neg (by omega), if_neg (by omega), h2.2]
  unfold rBy
  rw [h2.1]
  simp
structure Ev where
  day : Int
  cou : Nat
  frm : Nat
  to : Nat
  live : Bool
  note : ByteArray
  car : ByteArray
def bytesOf (S : ByteArray) : List UInt8 := S.data.toList
theorem bytesOf_length (S : ByteArray) : (bytesOf S).length = S.size := by show S.data.toList.length = S.data.size; simp
def Ev.wf (e : Ev) : Prop := (-9223372036854775808 ≤ e.day ∧ e.day ≤ 9223372036854775807) ∧ e.cou < 18446744073709551616 ∧ e.frm < 256 ∧ e.to < 256
def encE (e : Ev) : List UInt8 :=
  Wire.be (u64 e.day) 8 ++ (Wire.be e.cou 8 ++ (Wire.be e.frm 1 ++ (Wire.be e.to 1 ++ (Wire.be (if e.live then 1 else 0) 1 ++ (encB (bytesOf e.note) ++ encB (bytesOf e.car))))))
def encL (l : List Ev) : List UInt8 := l.flatMap encE
theorem encL_cons (e : Ev) (l : List Ev) : encL (e :: l) = encE e ++ encL l := by unfold encL; rw [List.flatMap_cons]
theorem encL_take {l : List Ev} {k : Nat} {e : Ev} (h : l[k]? = some e) : encL (l.take (k + 1)) = encL (l.take k) ++ encE e := by
  rw [List.take_add_one, h]
  unfold encL
  simp
theorem encL_drop {l : List Ev} {k : Nat} {e : Ev} (h : l[k]? = some e) : encL (l.drop k) = encE e ++ encL (l.drop (k + 1)) := by
  have hk := (List.getElem?_eq_some_iff.1 h).1
  have he := (List.getElem?_eq_some_iff.1 h).2
  rw [List.drop_eq_getElem_cons hk, he, encL_cons]
theorem encE_length (e : Ev) : (encE e).length = 27 + e.note.size + e.car.size := by
  unfold encE encB
  simp only [List.length_append, Wire.be_length, bytesOf_length]; omega
theorem encE_ne (e : Ev) : encE e ≠ [] := fun h => by have := encE_length e; rw [h] at this; simp at this; omega

/-! ### the writer -/
theorem wnum_ok {L : List UInt8} {N k : Nat} (hk : k = 1 ∨ k = 2 ∨ k = 4 ∨ k = 8) (hN : N < 256 ^ k) : Wire.wNum (some L) N (k : Int) = some (L ++ Wire.be N k) := by
  unfold Wire.wNum
  rw [if_pos ⟨by rcases hk with rfl | rfl | rfl | rfl <;> rfl, by rw [Int.toNat_natCast]; exact hN⟩, Int.toNat_natCast]; rfl
theorem wblob_ok {L b : List UInt8} (hb : b.length ≤ 16777216) : Wire.wBlob (some L) b = some (L ++ encB b) := by
  rw [wBlob_step]
  unfold pBlob
  rw [if_pos hb]
  rfl

/-! ### the reader -/
theorem wrap_u64 (n : Int) (h : -9223372036854775808 ≤ n ∧ n ≤ 9223372036854775807) : wrap64 ((u64 n : Nat) : Int) = n := by
  unfold u64 wrap64; omega

/-! ### less the last byte -/
theorem dropLast_app {a b : List UInt8} (h : b ≠ []) : (a ++ b).dropLast = a ++ b.dropLast := List.dropLast_append_of_ne_nil h
def s2 (st : Option (List UInt8)) : Option (List UInt8) :=
  let a := rNumS (rNumS (rNumS st 8) 8) 2
  rBlobS (rBlobS (if rNumV a 1 > 1 then none else rNumS a 1))
theorem rblob_cut (b t : List UInt8) (hb : b.length ≤ 16777216) : rBlobS (some ((encB b ++ t).dropLast)) = if t = [] then none else some t.dropLast := by
  unfold encB
  rw [List.append_assoc]
  by_cases hbt : b ++ t = []
  · have h1 : b = [] := (List.append_eq_nil_iff.1 hbt).1
    have h2 : t = [] := (List.append_eq_nil_iff.1 hbt).2
    subst h1; subst h2
    rw [if_pos rfl]
    have h := rnum_short ((Wire.be ([] : List UInt8).length 4 ++ ([] ++ [])).dropLast) 4 (by decide) (by rw [List.length_dropLast, List.length_append, Wire.be_length]; decide)
    rw [show ((4 : Nat) : Int) = 4 from rfl] at h
    unfold rBlobS
    rw [h.1, h.2]; rfl
  · rw [dropLast_app hbt]
    have h := rnum_be b.length 4 ((b ++ t).dropLast) (by decide) (by omega)
    rw [show ((4 : Nat) : Int) = 4 from rfl] at h
    unfold rBlobS
    rw [h.1, h.2, if_neg (by omega)]
    by_cases ht : t = []
    · subst ht
      rw [if_pos rfl]
      have hbl : b ≠ [] := fun e => hbt (by rw [e]; rfl)
      have hpos : 0 < b.length := List.length_pos_iff.2 hbl
      exact (rTake_bad (fun l e => by injection e with e; subst e; rw [List.append_nil, List.length_dropLast]; omega)).2
    · rw [if_neg ht, dropLast_app ht]
      rw [(rTake_fit (l := b ++ t.dropLast) (n := b.length) (by rw [List.length_append]; omega)).2]
      simp
theorem s2_cut (e : Ev) (t : List UInt8) (hw : e.wf) (hn : e.note.size ≤ 300) (hc : e.car.size ≤ 300) : s2 (some ((encE e ++ t).dropLast)) = if t = [] then none else some t.dropLast := by
  have hR : encB (bytesOf e.car) ++ t ≠ [] := fun h => by
    have := congrArg List.length h
    unfold encB at this
    simp only [List.length_append, Wire.be_length, List.length_nil] at this; omega
  have key : (encE e ++ t).dropLast = Wire.be (u64 e.day) 8 ++ (Wire.be e.cou 8 ++ ((Wire.be e.frm 1 ++ Wire.be e.to 1) ++ (Wire.be (if e.live then 1 else 0) 1 ++ (encB (bytesOf e.note) ++ (encB (bytesOf e.car) ++ t).dropLast)))) := by
    rw [← dropLast_app (a := encB (bytesOf e.note)) hR]
    rw [← dropLast_app (a := Wire.be (if e.live then 1 else 0) 1) (by simp [hR])]
    rw [← dropLast_app (a := Wire.be e.frm 1 ++ Wire.be e.to 1) (by simp [hR])]
    rw [← dropLast_app (a := Wire.be e.cou 8) (by simp [hR])]
    rw [← dropLast_app (a := Wire.be (u64 e.day) 8) (by simp [hR])]
    unfold encE
    simp only [List.append_assoc]
  rw [key]
  unfold s2
  have h1 := rnumS_app (Wire.be (u64 e.day) 8) (Wire.be e.cou 8 ++ ((Wire.be e.frm 1 ++ Wire.be e.to 1) ++ (Wire.be (if e.live then 1 else 0) 1 ++ (encB (bytesOf e.note) ++ (encB (bytesOf e.car) ++ t).dropLast)))) 8 (by decide) (Wire.be_length _ _)
  have h2 := rnumS_app (Wire.be e.cou 8) ((Wire.be e.frm 1 ++ Wire.be e.to 1) ++ (Wire.be (if e.live then 1 else 0) 1 ++ (encB (bytesOf e.note) ++ (encB (bytesOf e.car) ++ t).dropLast))) 8 (by decide) (Wire.be_length _ _)
  have h3 := rnumS_app (Wire.be e.frm 1 ++ Wire.be e.to 1) (Wire.be (if e.live then 1 else 0) 1 ++ (encB (bytesOf e.note) ++ (encB (bytesOf e.car) ++ t).dropLast)) 2 (by decide) (by rw [List.length_append, Wire.be_length, Wire.be_length])
  have h4 := rnum_be (if e.live then 1 else 0) 1 (encB (bytesOf e.note) ++ (encB (bytesOf e.car) ++ t).dropLast) (by decide) (by split <;> decide)
  rw [show ((8 : Nat) : Int) = 8 from rfl] at h1 h2
  rw [show ((2 : Nat) : Int) = 2 from rfl] at h3
  rw [show ((1 : Nat) : Int) = 1 from rfl] at h4
  rw [h1.1, h2.1, h3.1]
  show rBlobS (rBlobS (if rNumV _ 1 > 1 then none else rNumS _ 1)) = _
  rw [h4.1, h4.2, if_neg (by split <;> omega)]
  rw [(rblob_enc (bytesOf e.note) ((encB (bytesOf e.car) ++ t).dropLast) (by rw [bytesOf_length]; omega)).2]
  exact rblob_cut _ _ (by rw [bytesOf_length]; omega)
end Go.Proofs.Ytfpcpnjegbmdbaa
