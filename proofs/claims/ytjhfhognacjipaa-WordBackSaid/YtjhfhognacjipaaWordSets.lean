import Derived.Test.YtjhfhognacjipaaWordLaws
/-! Texts in which numbers are set. -/
namespace Go.Proofs.Ytjhfhognacjipaa
open Go.RowKit

/-- The list with w laid over it from i on. -/
def setL (l : List UInt8) (i : Nat) (w : List UInt8) : List UInt8 := l.take i ++ w ++ l.drop (i + w.length)

theorem setL_length (l w : List UInt8) (i : Nat) (h : i + w.length ≤ l.length) : (setL l i w).length = l.length := by
  simp [setL]
  omega

theorem setL_get (l w : List UInt8) (i j : Nat) (h : i + w.length ≤ l.length) : (setL l i w)[j]? = if j < i then l[j]? else if j < i + w.length then w[j - i]? else l[j]? := by
  unfold setL
  by_cases h1 : j < i
  · rw [if_pos h1, List.append_assoc, List.getElem?_append_left (by simp; omega), List.getElem?_take, if_pos h1]
  · rw [if_neg h1, List.append_assoc, List.getElem?_append_right (by simp; omega)]
    have e : j - (l.take i).length = j - i := by simp; omega
    rw [e]
    by_cases h2 : j < i + w.length
    · rw [if_pos h2, List.getElem?_append_left (by omega)]
    · rw [if_neg h2, List.getElem?_append_right (by omega), List.getElem?_drop]
      congr 1
      omega

/-- Two that do not meet go in either order. -/
theorem setL_comm (l w v : List UInt8) (i j : Nat) (hi : i + w.length ≤ l.length) (hj : j + v.length ≤ l.length) (h : i + w.length ≤ j ∨ j + v.length ≤ i) :
    setL (setL l i w) j v = setL (setL l j v) i w := by
  apply List.ext_getElem?
  intro k
  rw [setL_get (setL l i w) v j k (by rw [setL_length _ _ _ hi]; exact hj), setL_get (setL l j v) w i k (by rw [setL_length _ _ _ hj]; exact hi), setL_get l w i k hi, setL_get l v j k hj]
  (repeat' split) <;> first | rfl | omega

/-- Of two at one place the later one counts. -/
theorem setL_again (l w v : List UInt8) (i : Nat) (hi : i + w.length ≤ l.length) (h : v.length = w.length) : setL (setL l i w) i v = setL l i v := by
  apply List.ext_getElem?
  intro k
  rw [setL_get _ _ _ _ (by rw [setL_length _ _ _ hi]; omega), setL_get _ _ _ _ hi, setL_get _ _ _ _ (by omega)]
  (repeat' split) <;> first | rfl | omega

theorem of_length (x n : Int) (h : n = 1 ∨ n = 2 ∨ n = 4 ∨ n = 8) : ((wordOf x n).data.toList.length : Int) = n := wordOf_size_eq x n h

/-- A number that is set. -/
theorem set_ok (s : ByteArray) (i x n : Int) (h : (wordGet s i n).2 = 0) :
    (wordSet s i x n).2 = 0 ∧ (wordSet s i x n).1.data.toList = setL s.data.toList i.toNat (wordOf x n).data.toList ∧ i.toNat + (wordOf x n).data.toList.length ≤ s.data.toList.length ∧ (wordSet s i x n).1.size = s.size := by
  obtain ⟨a, b, c, d⟩ := wordGet_ok h
  have hl := of_length x n d
  have hsz : s.data.toList.length = s.size := rfl
  have e : wordSet s i x n = (s.extract 0 i.toNat ++ wordOf x n ++ s.extract (i + n).toNat s.size, 0) := if_neg (by simpa using h)
  have hle : i.toNat + (wordOf x n).data.toList.length ≤ s.data.toList.length := by omega
  have ed : (wordSet s i x n).1.data.toList = setL s.data.toList i.toNat (wordOf x n).data.toList := by
    rw [e]
    have et : (i + n).toNat = i.toNat + (wordOf x n).data.toList.length := by omega
    simp only [setL, ByteArray.data_append, ByteArray.data_extract, Array.toList_append, Array.toList_extract, List.extract_eq_take_drop, et]
    simp only [Nat.sub_zero, List.drop_zero]
    congr 1
    rw [List.take_of_length_le]
    simp
  refine ⟨by rw [e], ed, hle, ?_⟩
  show (wordSet s i x n).1.data.toList.length = s.data.toList.length
  rw [ed, setL_length _ _ _ hle]

theorem get_size (s t : ByteArray) (i n : Int) (h : t.size = s.size) : (wordGet t i n).2 = (wordGet s i n).2 := by
  unfold wordGet
  rw [h]
  (repeat' split) <;> rfl

theorem set_err (s : ByteArray) (i x n : Int) : (wordSet s i x n).2 = (wordGet s i n).2 := by
  by_cases h : (wordGet s i n).2 = 0
  · rw [(set_ok s i x n h).1, h]
  · have e : wordSet s i x n = (⟨#[]⟩, (wordGet s i n).2) := if_pos h
    rw [e]

theorem set_comm (s : ByteArray) (i j x y n m : Int) (h : (wordGet s i n).2 = 0) (k : (wordGet s j m).2 = 0) (ha : i ≤ j - n ∨ j ≤ i - m) :
    (wordSet (wordSet s i x n).1 j y m).1 = (wordSet (wordSet s j y m).1 i x n).1 := by
  obtain ⟨_, b1, c1, d1⟩ := set_ok s i x n h
  obtain ⟨_, b2, c2, d2⟩ := set_ok s j y m k
  obtain ⟨_, b3, _, _⟩ := set_ok (wordSet s i x n).1 j y m (by rw [get_size _ _ _ _ d1]; exact k)
  obtain ⟨_, b4, _, _⟩ := set_ok (wordSet s j y m).1 i x n (by rw [get_size _ _ _ _ d2]; exact h)
  apply ByteArray.ext
  apply Array.toList_inj.1
  obtain ⟨p1, p2, p3, p4⟩ := wordGet_ok h
  obtain ⟨q1, q2, q3, q4⟩ := wordGet_ok k
  have l1 := of_length x n p4
  have l2 := of_length y m q4
  rw [b3, b4, b1, b2]
  exact setL_comm _ _ _ _ _ c1 c2 (by omega)

theorem set_again (s : ByteArray) (i x y n : Int) (h : (wordGet s i n).2 = 0) : (wordSet (wordSet s i x n).1 i y n).1 = (wordSet s i y n).1 := by
  obtain ⟨_, b1, c1, d1⟩ := set_ok s i x n h
  obtain ⟨_, b2, _, _⟩ := set_ok s i y n h
  obtain ⟨_, b3, _, _⟩ := set_ok (wordSet s i x n).1 i y n (by rw [get_size _ _ _ _ d1]; exact h)
  apply ByteArray.ext
  apply Array.toList_inj.1
  obtain ⟨p1, p2, p3, p4⟩ := wordGet_ok h
  have l1 := of_length x n p4
  have l2 := of_length y n p4
  rw [b3, b2, b1]
  exact setL_again _ _ _ _ c1 (by omega)

theorem byteAt_list (s : ByteArray) (i : Nat) : byteAt s i = ((s.data.toList[i]?).map fun b : UInt8 => (b.toNat : Int)).getD 0 := by
  unfold byteAt
  split
  · rename_i h
    have h2 : i < s.data.toList.length := h
    rw [List.getElem?_eq_getElem h2]
    rfl
  · rename_i h
    have h2 : s.data.toList.length ≤ i := by
      have : s.data.toList.length = s.size := rfl
      omega
    rw [List.getElem?_eq_none h2]
    rfl

theorem numAt_congr (a b : ByteArray) (n : Nat) : ∀ p q, (∀ j, j < n → byteAt a (p + j) = byteAt b (q + j)) → numAt a p n = numAt b q n := by
  induction n with
  | zero => intro p q _; rfl
  | succ n ih =>
    intro p q h
    simp only [numAt]
    rw [show byteAt a p = byteAt b q from h 0 (by omega), ih (p + 1) (q + 1) (fun j hj => by
      have := h (j + 1) (by omega)
      rw [show p + 1 + j = p + (j + 1) by omega, show q + 1 + j = q + (j + 1) by omega]
      exact this)]

theorem extract_list (s : ByteArray) (a b : Nat) : (s.extract a b).data.toList = (s.data.toList.drop a).take (b - a) := by
  simp [ByteArray.data_extract, List.extract_eq_take_drop]

/-- The parts of a text in which a number is set. -/
theorem set_parts (s : ByteArray) (i x n : Int) (h : (wordGet s i n).2 = 0) (x0 : 0 ≤ x) (x1 : x < 18446744073709551616) :
    (wordSet s i x n).1.extract 0 i.toNat = s.extract 0 i.toNat ∧ (wordSet s i x n).1.extract (i.toNat + n.toNat) s.size = s.extract (i.toNat + n.toNat) s.size ∧
      (wordSet s i x n).1.extract i.toNat (i.toNat + n.toNat) = wordOf x n ∧ wordGet (wordSet s i x n).1 i n = (wordLow x n, 0) := by
  obtain ⟨_, b, c, d⟩ := set_ok s i x n h
  obtain ⟨p1, p2, p3, p4⟩ := wordGet_ok h
  have hl := of_length x n p4
  have hn : n.toNat = (wordOf x n).data.toList.length := by omega
  have hsz : s.data.toList.length = s.size := rfl
  refine ⟨?_, ?_, ?_, ?_⟩
  · apply ByteArray.ext
    apply Array.toList_inj.1
    rw [extract_list, extract_list, b]
    apply List.ext_getElem?
    intro k
    simp only [List.drop_zero, List.getElem?_take, Nat.sub_zero]
    rw [setL_get _ _ _ _ c]
    (repeat' split) <;> first | rfl | omega
  · apply ByteArray.ext
    apply Array.toList_inj.1
    rw [extract_list, extract_list, b]
    apply List.ext_getElem?
    intro k
    simp only [List.getElem?_take, List.getElem?_drop]
    rw [setL_get _ _ _ _ c]
    (repeat' split) <;> first | rfl | omega
  · apply ByteArray.ext
    apply Array.toList_inj.1
    rw [extract_list, b]
    apply List.ext_getElem?
    intro k
    simp only [List.getElem?_take, List.getElem?_drop]
    rw [setL_get _ _ _ _ c]
    by_cases hk : k < (wordOf x n).data.toList.length
    · rw [if_pos (by omega), if_neg (by omega), if_pos (by omega)]
      congr 1
      omega
    · rw [if_neg (by omega), List.getElem?_eq_none (by omega)]
  · have e : wordGet (wordSet s i x n).1 i n = (numAt (wordSet s i x n).1 i.toNat n.toNat, 0) := by
      unfold wordGet
      rw [d, if_neg (by omega), if_neg (by omega)]
    rw [e]
    have e2 : numAt (wordSet s i x n).1 i.toNat n.toNat = numAt (wordOf x n) 0 n.toNat := numAt_congr _ _ _ _ _ fun j hj => by
      rw [byteAt_list, byteAt_list, b, setL_get _ _ _ _ c, if_neg (by omega), if_pos (by omega)]
      congr 3
      omega
    have e3 : wordLow x n = x % 256 ^ n.toNat := if_pos p4
    have e4 : numAt (wordOf x n) 0 n.toNat = x % 256 ^ n.toNat := by
      have e5 : wordOf x n = strOfNums (wordNums x n.toNat) := if_pos p4
      have hh := numOf_word x x0 x1
      rw [e5, numAt_word]
      rcases p4 with rfl | rfl | rfl | rfl
      · exact hh.1
      · exact hh.2.1
      · exact hh.2.2.1
      · exact hh.2.2.2
    rw [e2, e3, e4]

end Go.Proofs.Ytjhfhognacjipaa
