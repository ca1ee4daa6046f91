import Derived.Test.YtjfcpajajaigfaaArrRef
/-! What both arrays hold, as lists of texts. -/
namespace Go.Proofs.Ytjfcpajajaigfaa
open Go.RowKit Go.Maps Go.Lib

theorem slotOf_put (l : List (Int × List Int)) (s : Int) (V : List Int) (r : Int) : slotOf (mput l s V) r = if s = r then V else slotOf l r := by
  unfold slotOf
  rw [mget_put]
  split <;> rfl

/-- The texts of the document's answer are the slots' beginnings. -/
def Agree (size : Nat) (l : List (Int × List Int)) (L : List ByteArray) : Prop := ∀ k : Nat, k < L.length → L[k]? = some (strOfNums ((slotOf l k).take size))

theorem put_text (V : List Int) (size a : Nat) (t : ByteArray) (h : a + t.size ≤ size) (hs : size ≤ V.length) : strOfNums ((putBytes V a t).take size) = putText (strOfNums (V.take size)) a t := by
  apply ByteArray.ext
  apply Array.toList_inj.1
  have e : t.data.toList.length = t.size := by rw [Array.length_toList]; rfl
  have e2 : t.data.toList.map (fun b => UInt8.ofNat ((b.toNat : Int)).toNat) = t.data.toList := by
    conv => rhs; rw [← List.map_id t.data.toList]
    apply List.map_congr_left
    intro b _
    simp
  have e3 : (strOfNums (V.take size)).size = size := by rw [strOfNums_size, List.length_take]; omega
  have e4 : (V.take a).length = a := by rw [List.length_take]; omega
  have e5 : (putBytes V a t).take size = V.take a ++ t.data.toList.map (fun b => (b.toNat : Int)) ++ (V.take size).drop (a + t.size) := by
    unfold putBytes
    rw [List.append_assoc, List.take_append, List.take_append, List.length_map, e, e4, List.take_take, Nat.min_eq_right (by omega), List.take_of_length_le (l := List.map _ t.data.toList) (by rw [List.length_map, e]; omega), List.drop_take,
      show size - a - t.size = size - (a + t.size) by omega, List.append_assoc]
  have e6 : (V.take size).take a = V.take a := by rw [List.take_take, Nat.min_eq_left (by omega)]
  have e7 : ((V.take size).drop (a + t.size)).length = size - (a + t.size) := by rw [List.length_drop, List.length_take]; omega
  simp only [putText, ByteArray.data_append, ByteArray.data_extract, Array.toList_append, Array.toList_extract, strOfNums_data, e3, e5, List.map_append, List.map_map]
  rw [show (fun n : Int => UInt8.ofNat n.toNat) ∘ (fun b : UInt8 => (b.toNat : Int)) = fun b => UInt8.ofNat ((b.toNat : Int)).toNat from rfl, e2]
  simp only [List.extract_eq_take_drop, List.drop_zero, Nat.sub_zero, ← List.map_take, ← List.map_drop, e6]
  rw [List.take_of_length_le (l := List.drop _ _) (by rw [e7]; exact Nat.le_refl _)]

theorem put_get (V : List Int) (a : Nat) (t : ByteArray) (h : a + t.size ≤ V.length) (p : Nat) :
    (putBytes V a t)[p]? = if a ≤ p ∧ p - a < t.size then some (byteAt t (p - a)) else V[p]? := by
  have e : t.data.toList.length = t.size := by rw [Array.length_toList]; rfl
  have e4 : (V.take a).length = a := by rw [List.length_take]; omega
  unfold putBytes
  rw [List.append_assoc]
  by_cases h1 : p < a
  · rw [if_neg (by omega), List.getElem?_append_left (by omega), List.getElem?_take, if_pos h1]
  · rw [List.getElem?_append_right (by omega), e4]
    by_cases h2 : p - a < t.size
    · rw [if_pos ⟨by omega, h2⟩, List.getElem?_append_left (by rw [List.length_map, e]; exact h2), List.getElem?_map, List.getElem?_eq_getElem (by rw [e]; exact h2), ← byteAt_eq t _ h2]
      rfl
    · rw [if_neg (by omega), List.getElem?_append_right (by rw [List.length_map, e]; omega), List.length_map, e, List.getElem?_drop]
      congr 1
      omega

theorem byteAt_one (l : List Int) (i : Nat) (v : Int) (h : l[i]? = some v) (h0 : 0 ≤ v) (h1 : v < 256) : byteAt (strOfNums l) i = v := by
  have hi : i < l.length := (List.getElem?_eq_some_iff.1 h).1
  have h2 : i < (strOfNums l).size := by rw [strOfNums_size_]; exact hi
  have h3 : l[i] = v := (List.getElem?_eq_some_iff.1 h).2
  unfold byteAt
  rw [dif_pos h2]
  have e : (strOfNums l)[i] = UInt8.ofNat (l[i].toNat) := by
    show (strOfNums l).data[i] = _
    simp [strOfNums]
  rw [e, UInt8.toNat_ofNat', h3]
  omega

theorem Agree.put {size : Nat} {l : List (Int × List Int)} {L : List ByteArray} (h : Agree size l L) (k : Nat) (S : ByteArray) (hS : L[k]? = some S) (hlen : (slotOf l k).length = 128) (hs : size ≤ 128) (a : Nat) (t : ByteArray) (ht : a + t.size ≤ size) :
    Agree size (mput l k (putBytes (slotOf l k) a t)) (L.set k (putText S a t)) := by
  intro j hj
  rw [List.length_set] at hj
  have hk : k < L.length := (List.getElem?_eq_some_iff.1 hS).1
  have h1 := h k hk
  rw [hS] at h1
  have h2 : S = strOfNums ((slotOf l k).take size) := Option.some.inj h1
  rw [List.getElem?_set, slotOf_put]
  by_cases e : k = j
  · subst e
    rw [if_pos rfl, if_pos rfl, if_pos hk, put_text _ _ _ _ ht (by omega), h2]
  · rw [if_neg e, if_neg (by omega)]
    exact h j hj

theorem Agree.size {size : Nat} {l : List (Int × List Int)} {L : List ByteArray} (h : Agree size l L) (hlen : ∀ s, (slotOf l s).length = 128) (hs : size ≤ 128) {k : Nat} {S : ByteArray} (hS : L[k]? = some S) : S.size = size := by
  have hk : k < L.length := (List.getElem?_eq_some_iff.1 hS).1
  have h1 := h k hk
  rw [hS] at h1
  rw [Option.some.inj h1, strOfNums_size, List.length_take, hlen]
  omega

end Go.Proofs.Ytjfcpajajaigfaa
