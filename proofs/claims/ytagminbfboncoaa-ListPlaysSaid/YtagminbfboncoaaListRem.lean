import Derived.Test.YtagminbfboncoaaListTurnedW
/-! Package list: the law ListRemoves: the plain part. -/
namespace Go.Proofs.Ytagminbfboncoaa
open Go.RowKit Go.Maps
set_option maxHeartbeats 2000000
set_option linter.unusedSimpArgs false
set_option linter.unusedVariables false

def nth (i : Nat) : Int × Int := ((i : Int), 1)
def left (seen : List Int) (i : Nat) : Bool := decide ((i : Int) ∉ seen)
/-- Who is left of many. -/
def hsOf (M : Nat) (seen : List Int) : List (Int × Int) := ((List.range M).filter (left seen)).map nth
/-- Who is there when i have been pushed anew. -/
def curOf (M : Nat) (seen : List Int) (i : Nat) : List (Int × Int) := (((List.range i).filter (fun j => !left seen j)).map nth).reverse ++ hsOf M seen
def cnt (seen : List Int) (i : Nat) : Nat := ((List.range i).filter (left seen)).length

theorem nth_inj {i j : Nat} (h : nth i = nth j) : i = j := by
  unfold nth at h
  injection h with h _
  omega

theorem hsOf_zero : hsOf 0 [] = [] := rfl
theorem hsOf_push (k : Nat) : hsOf k [] ++ [((k : Int), 1)] = hsOf (k + 1) [] := by
  unfold hsOf
  rw [List.range_succ, List.filter_append, List.map_append]
  simp [left, nth]

theorem mem_hsOf {M : Nat} {seen : List Int} {a : Int} : (a, (1 : Int)) ∈ hsOf M seen ↔ 0 ≤ a ∧ a < M ∧ a ∉ seen := by
  unfold hsOf
  simp only [List.mem_map, List.mem_filter, List.mem_range, left, decide_eq_true_eq, nth]
  constructor
  · rintro ⟨i, ⟨h1, h2⟩, h3⟩
    injection h3 with h3 _
    subst h3
    exact ⟨by omega, by omega, h2⟩
  · rintro ⟨h1, h2, h3⟩
    exact ⟨a.toNat, ⟨by omega, by rwa [Int.toNat_of_nonneg h1]⟩, by rw [Int.toNat_of_nonneg h1]⟩

theorem hsOf_length_le (M : Nat) (seen : List Int) : (hsOf M seen).length ≤ M := by
  unfold hsOf
  rw [List.length_map]
  exact Nat.le_trans (List.length_filter_le _ _) (by simp)

theorem eraseIdx_filter {hs : List (Int × Int)} (hn : hs.Nodup) : ∀ {i : Nat} {p : Int × Int}, hs[i]? = some p → hs.eraseIdx i = hs.filter (fun x => decide (x ≠ p)) := by
  induction hs with
  | nil => intro i p h; simp at h
  | cons a hs ih =>
    intro i p h
    rw [List.nodup_cons] at hn
    cases i with
    | zero =>
      simp at h
      subst h
      rw [List.eraseIdx_zero, List.tail_cons, List.filter_cons, if_neg (by simp)]
      symm
      rw [List.filter_eq_self]
      intro x hx
      simp
      rintro rfl
      exact hn.1 hx
    | succ i =>
      simp at h
      rw [List.eraseIdx_cons_succ, List.filter_cons, if_pos ?_, ih hn.2 h]
      simp
      rintro rfl
      exact hn.1 (List.mem_of_getElem? h)

theorem removed_filter {hs : List (Int × Int)} (hn : hs.Nodup) (p : Int × Int) : removed hs p = hs.filter (fun x => decide (x ≠ p)) := by
  unfold removed
  cases h : hAt hs p with
  | none =>
    simp only []
    symm
    rw [List.filter_eq_self]
    intro x hx
    simp
    rintro rfl
    exact hAt_none h hx
  | some i => exact eraseIdx_filter hn (hAt_some h)

theorem removed_hsOf {M : Nat} {seen : List Int} (hn : (hsOf M seen).Nodup) (a : Int) : removed (hsOf M seen) (a, 1) = hsOf M (seen ++ [a]) := by
  rw [removed_filter hn]
  unfold hsOf
  rw [List.filter_map, List.filter_filter]
  congr 1
  apply List.filter_congr
  intro i hi
  rw [Bool.eq_iff_iff]
  simp [left, nth]
  constructor
  · rintro ⟨h1, h2⟩
    exact ⟨h2, h1⟩
  · rintro ⟨h1, h2⟩
    exact ⟨h2, h1⟩

theorem cnt_succ (seen : List Int) (i : Nat) : cnt seen (i + 1) = cnt seen i + (if left seen i then 1 else 0) := by
  unfold cnt
  rw [List.range_succ, List.filter_append, List.length_append, List.filter_cons]
  cases left seen i <;> simp

theorem cnt_all (M : Nat) (seen : List Int) : cnt seen M = (hsOf M seen).length := by
  unfold cnt hsOf
  rw [List.length_map]

theorem hsOf_at {M : Nat} {seen : List Int} {i : Nat} (hi : i < M) (h : left seen i = true) : (hsOf M seen)[cnt seen i]? = some ((i : Int), 1) := by
  unfold hsOf cnt
  have e : List.range M = List.range i ++ i :: (List.range' (i + 1) (M - (i + 1))) := by
    rw [List.range_eq_range', List.range_eq_range']
    have : List.range' i (M - i) = i :: List.range' (i + 1) (M - (i + 1)) := by
      rw [show M - i = (M - (i + 1)) + 1 by omega, List.range'_succ]
    rw [← this, show List.range' i (M - i) = List.range' (0 + 1 * i) (M - i) by simp, List.range'_append, show i + (M - i) = M by omega]
  rw [e, List.filter_append, List.filter_cons, if_pos h, List.map_append, List.getElem?_append_right (by simp)]
  simp [nth]

theorem cnt_mono (seen : List Int) {i j : Nat} (h : i ≤ j) : cnt seen i ≤ cnt seen j := by
  induction j with
  | zero => rw [show i = 0 by omega]; exact Nat.le_refl _
  | succ j ih =>
    rcases Nat.lt_or_ge i (j + 1) with h1 | h1
    · rw [cnt_succ]
      have := ih (by omega)
      omega
    · rw [show i = j + 1 by omega]
      exact Nat.le_refl _

theorem curOf_zero (M : Nat) (seen : List Int) : curOf M seen 0 = hsOf M seen := rfl

theorem mem_curOf {M : Nat} {seen : List Int} {i : Nat} (hi : i < M) : ((i : Int), (1 : Int)) ∈ curOf M seen i ↔ left seen i = true := by
  unfold curOf
  rw [List.mem_append, List.mem_reverse, mem_hsOf]
  simp only [List.mem_map, List.mem_filter, List.mem_range, left, decide_eq_true_eq]
  constructor
  · rintro (⟨j, ⟨h1, h2⟩, h3⟩ | h)
    · have := nth_inj (i := j) (j := i) h3
      omega
    · exact h.2.2
  · intro h
    exact .inr ⟨by omega, by omega, h⟩

theorem pushed_curOf {M : Nat} {seen : List Int} {i : Nat} (hi : i < M) : pushed (curOf M seen i) ((i : Int), 1) true = curOf M seen (i + 1) := by
  unfold pushed
  by_cases h : left seen i = true
  · rw [if_pos ((mem_curOf hi).2 h)]
    unfold curOf
    rw [List.range_succ, List.filter_append]
    simp [h]
  · rw [if_neg (fun e => h ((mem_curOf hi).1 e)), if_pos rfl]
    unfold curOf
    rw [List.range_succ, List.filter_append]
    simp [h, nth]

theorem split_length {α : Type} (f : α → Bool) (l : List α) : (l.filter (fun j => !f j)).length + (l.filter f).length = l.length := by
  induction l with
  | nil => rfl
  | cons a l ih => cases h : f a <;> simp [h] <;> omega

theorem curOf_length (M : Nat) (seen : List Int) : (curOf M seen M).length = M := by
  unfold curOf hsOf
  rw [List.length_append, List.length_reverse, List.length_map, List.length_map]
  have h := split_length (left seen) (List.range M)
  rw [List.length_range] at h
  exact h

end Go.Proofs.Ytagminbfboncoaa
