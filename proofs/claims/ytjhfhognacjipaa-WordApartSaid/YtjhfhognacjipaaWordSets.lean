import Derived.Test.YtjhfhognacjipaaWordLaws
/-! Texts in which numbers are set. -/
namespace Go.Proofs.Ytjhfhognacjipaa
open Go.RowKit

/-- The list with w laid over it from i on. -/
def setL (l : List UInt8) (i : Nat) (w : List UInt8) : List UInt8 := l.take i ++ w ++ l.drop (i + w.length)

theorem setL_length (l w : List UInt8) (i : Nat) (h : i + w.length ≤ l.length) : (setL l i w).length = l.length := by
  simp [setL]
  omega

theorem setL_get (l w : List UInt8) (i j : Nat) (h : i + w.length ≤ l.length) : (setL l i w)[j]? = if j < i then l[j]? else if j < i + w.length then w[j - i]? else l[j]? := by
  unfold setL
  by_cases h1 : j < i
  · rw [if_pos h1, List.append_assoc, List.getElem?_append_left (by simp; omega), List.getElem?_take, if_pos h1]
  · rw [if_neg h1, List.append_assoc, List.getElem?_append_right (by simp; omega)]
    have e : j - (l.take i).length = j - i := by simp; omega
    rw [e]
    by_cases h2 : j < i + w.length
    · rw [if_pos h2, List.getElem?_append_left (by omega)]
    · rw [if_neg h2, List.getElem?_append_right (by omega), List.getElem?_drop]
      congr 1
      omega

/-- Two that do not meet go in either order. -/
theorem setL_comm (l w v : List UInt8) (i j : Nat) (hi : i + w.length ≤ l.length) (hj : j + v.length ≤ l.length) (h : i + w.length ≤ j ∨ j + v.length ≤ i) :
    setL (setL l i w) j v = setL (setL l j v) i w := by
  apply List.ext_getElem?
  intro k
  rw [setL_get (setL l i w) v j k (by rw [setL_length _ _ _ hi]; exact hj), setL_get (setL l j v) w i k (by rw [setL_length _ _ _ hj]; exact hi), setL_get l w i k hi, setL_get l v j k hj]
  (repeat' split) <;> first | rfl | omega

/-- Of two at one place the later one counts. -/
theorem setL_again (l w v : List UInt8) (i : Nat) (hi : i + w.length ≤ l.length) (h : v.length = w.length) : setL (setL l i w) i v = setL l i v := by
  apply List.ext_getElem?
  intro k
  rw [setL_get _ _ _ _ (by rw [setL_length _ _ _ hi]; omega), setL_get _ _ _ _ hi, setL_get _ _ _ _ (by omega)]
  (repeat' split) <;> first | rfl | omega

theorem of_length (x n : Int) (h : n = 1 ∨ n = 2 ∨ n = 4 ∨ n = 8) : ((wordOf x n).data.toList.length : Int) = n := wordOf_size_eq x n h

/-- A number that is set. -/
theorem set_ok (s : ByteArray) (i x n : Int) (h : (wordGet s i n).2 = 0) :
    (wordSet s i x n).2 = 0 ∧ (wordSet s i x n).1.data.toList = setL s.data.toList i.toNat (wordOf x n).data.toList ∧ i.toNat + (wordOf x n).data.toList.length ≤ s.data.toList.length ∧ (wordSet s i x n).1.size = s.size := by
  obtain ⟨a, b, c, d⟩ := wordGet_ok h
  have hl := of_length x n d
  have hsz : s.data.toList.length = s.size := rfl
  have e : wordSet s i x n = (s.extract 0 i.toNat ++ wordOf x n ++ s.extract (i + n).toNat s.size, 0) := if_neg (by simpa using h)
  have hle : i.toNat + (wordOf x n).data.toList.length ≤ s.data.toList.length := by omega
  have ed : (wordSet s i x n).1.data.toList = setL s.data.toList i.toNat (wordOf x n).data.toList := by
    rw [e]
    have et : (i + n).toNat = i.toNat + (wordOf x n).data.toList.length := by omega
    simp only [setL, ByteArray.data_append, ByteArray.data_extract, Array.toList_append, Array.toList_extract, List.extract_eq_take_drop, et]
    simp only [Nat.sub_zero, List.drop_zero]
    congr 1
    rw [List.take_of_length_le]
    simp
  refine ⟨by rw [e], ed, hle, ?_⟩
  show (wordSet s i x n).1.data.toList.length = s.data.toList.length
  rw [ed, setL_length _ _ _ hle]

theorem get_size (s t : ByteArray) (i n : Int) (h : t.size = s.size) : (wordGet t i n).2 = (wordGet s i n).2 := by
  unfold wordGet
  rw [h]
  (repeat' split) <;> rfl

theorem set_err (s : ByteArray) (i x n : Int) : (wordSet s i x n).2 = (wordGet s i n).2 := by
  by_cases h : (wordGet s i n).2 = 0
  · rw [(set_ok s i x n h).1, h]
  · have e : wordSet s i x n = (⟨#[]⟩, (wordGet s i n).2) := if_pos h
    rw [e]

theorem set_comm (s : ByteArray) (i j x y n m : Int) (h : (wordGet s i n).2 = 0) (k : (wordGet s j m).2 = 0) (ha : i ≤ j - n ∨ j ≤ i - m) :
    (wordSet (wordSet s i x n).1 j y m).1 = (wordSet (wordSet s j y m).1 i x n).1 := by
  obtain ⟨_, b1, c1, d1⟩ := set_ok s i x n h
  obtain ⟨_, b2, c2, d2⟩ := set_ok s j y m k
  obtain ⟨_, b3, _, _⟩ := set_ok (wordSet s i x n).1 j y m (by rw [get_size _ _ _ _ d1]; exact k)
  obtain ⟨_, b4, _, _⟩ := set_ok (wordSet s j y m).1 i x n (by rw [get_size _ _ _ _ d2]; exact h)
  apply ByteArray.ext
  apply Array.toList_inj.1
  obtain ⟨p1, p2, p3, p4⟩ := wordGet_ok h
  obtain ⟨q1, q2, q3, q4⟩ := wordGet_ok k
  have l1 := of_length x n p4
  have l2 := of_length y m q4
  rw [b3, b4, b1, b2]
  exact setL_comm _ _ _ _ _ c1 c2 (by omega)

theorem set_again (s : ByteArray) (i x y n : Int) (h : (wordGet s i n).2 = 0) : (wordSet (wordSet s i x n).1 i y n).1 = (wordSet s i y n).1 := by
  obtain ⟨_, b1, c1, d1⟩ := set_ok s i x n h
  obtain ⟨_, b2, _, _⟩ := set_ok s i y n h
  obtain ⟨_, b3, _, _⟩ := set_ok (wordSet s i x n).1 i y n (by rw [get_size _ _ _ _ d1]; exact h)
  apply ByteArray.ext
  apply Array.toList_inj.1
  obtain ⟨p1, p2, p3, p4⟩ := wordGet_ok h
  have l1 := of_length x n p4
  have l2 := of_length y n p4
  rw [b3, b2, b1]
  exact setL_again _ _ _ _ c1 (by omega)

end Go.Proofs.Ytjhfhognacjipaa
