import Derived.Test.YtagminbfboncoaaListThrough
import Derived.Test.YtagminbfboncoaaShapes
import Derived.Laws.AppendOwn
/-! Package list: the law ListTurned. -/
namespace Go.Proofs.Ytagminbfboncoaa
open Go.RowKit Go.Maps
set_option maxHeartbeats 2000000
set_option maxRecDepth 100000
set_option linter.unusedSimpArgs false
set_option linter.unusedVariables false

theorem rowCells_at {hs : List (Int × Int)} : ∀ {j : Nat} {p : Int × Int}, hs[j]? = some p → (rowCells hs)[j * 2]? = some (.int .i64 p.1) ∧ (rowCells hs)[j * 2 + 1]? = some (.int .u64 p.2) := by
  induction hs with
  | nil => intro j p h; simp at h
  | cons a hs ih =>
    intro j p h
    have e : rowCells (a :: hs) = .int .i64 a.1 :: .int .u64 a.2 :: rowCells hs := rfl
    rw [e]
    cases j with
    | zero =>
      simp at h
      subst h
      exact ⟨rfl, rfl⟩
    | succ j =>
      have := ih (j := j) (p := p) (by simpa using h)
      have e1 : (j + 1) * 2 = j * 2 + 1 + 1 := by omega
      rw [e1]
      simpa using this

/-- A cell of a row of handles. -/
theorem row_at {W : World} {base n : Nat} {v : Value} {hs : List (Int × Int)} (h : W.ownsRow base 29 2 v n (rowCells hs)) {j : Nat} {p : Int × Int} (hj : hs[j]? = some p) :
    ∃ g cap, v = .slice (some ⟨g, 0, none⟩) n cap ∧ W.cell? ⟨g, j * 2, none⟩ = some (.int .i64 p.1) ∧ W.cell? ⟨g, j * 2 + 1, none⟩ = some (.int .u64 p.2) := by
  obtain ⟨hlen, h⟩ := h
  obtain ⟨h1, h2⟩ := rowCells_at hj
  have l1 := (List.getElem?_eq_some_iff.1 h1).1
  have l2 := (List.getElem?_eq_some_iff.1 h2).1
  rcases h with ⟨rfl, hn⟩ | ⟨g, cap, cur, rfl, hg, hb, hc1, hc2, hc3, hcs⟩
  · omega
  · have hh : Has W g 29 cur := hb
    rw [← hcs, List.getElem?_take] at h1 h2
    refine ⟨g, cap, rfl, ?_, ?_⟩
    · rw [hh.cell, ← Array.getElem?_toList]
      split at h1
      · exact h1
      · cases h1
    · rw [hh.cell, ← Array.getElem?_toList]
      split at h2
      · exact h2
      · cases h2

theorem row_turned {mb : Nat} {w w' : World} {base n : Nat} {v : Value} {xs : List Value} (h : w.ownsRow base 29 2 v n xs) (t : Turned (ListMay mb w) w w') : w'.ownsRow base 29 2 v n xs := by
  obtain ⟨h1, h2⟩ := h
  refine ⟨h1, ?_⟩
  rcases h2 with h2 | ⟨g, cap, cur, h3, h4, h5, h6⟩
  · exact .inl h2
  · exact .inr ⟨g, cap, cur, h3, h4, Has.kept_turned (g := g) h5 t, h6⟩

theorem row_below {w w' : World} {base n : Nat} {v : Value} {xs : List Value} (h : w.ownsRow base 29 2 v n xs) (t : Below w.heap.size w w') : w'.ownsRow base 29 2 v n xs :=
  owns_kept h (fun g c hh => hh.below t hh.lt)

/-- Room is made in a row of handles: the list is as it was. -/
theorem ListIs.grown_row {N : Nat} {w w' : World} {b mb base n : Nat} {hs : List (Int × Int)} {v : Value} {xs : List Value} (h : ListIs N w b mb hs) (hr : w.ownsRow base 29 2 v n xs) (hg : w.grownBy w' v.ownBlock) : ListIs N w' b mb hs := by
  refine h.kept fun k hk => hg.block k ?_ ?_
  · rcases hk with ⟨c, hc⟩ | ⟨c, hc⟩ | ⟨_, e, c, hc⟩ <;> exact (Array.getElem?_eq_some_iff.1 hc).1
  · intro e
    obtain ⟨c, hc⟩ := owns_block hr e.symm
    exact hc.notMay (by decide) (by decide) hk

/-- What is pushed, in which order it lies. -/
def laid (ins : List (Int × Int)) (push : Bool) : List (Int × Int) := if push then ins.reverse else ins

theorem laid_length (ins : List (Int × Int)) (push : Bool) : (laid ins push).length = ins.length := by unfold laid; cases push <;> simp
theorem mem_laid {ins : List (Int × Int)} {push : Bool} {p : Int × Int} : p ∈ laid ins push ↔ p ∈ ins := by unfold laid; cases push <;> simp
theorem pushed_laid {ins : List (Int × Int)} {push : Bool} {p : Int × Int} (h : p ∉ ins) : pushed (laid ins push) p push = laid (ins ++ [p]) push := by
  unfold pushed
  rw [if_neg (fun e => h (mem_laid.1 e))]
  unfold laid
  cases push <;> simp
theorem pushed_there {ins : List (Int × Int)} {push : Bool} {p : Int × Int} (h : p ∈ ins) : pushed (laid ins push) p push = laid ins push := by
  unfold pushed
  rw [if_pos (mem_laid.2 h)]
theorem hAt_mem {hs : List (Int × Int)} {p : Int × Int} : (hAt hs p).isSome = decide (p ∈ hs) := by
  unfold hAt
  rw [List.findIdx?_isSome, Bool.eq_iff_iff]
  simp

/-- The row when i are popped. -/
def rest (L : List (Int × Int)) (pop : Bool) (i : Nat) : List (Int × Int) := if pop then L.drop i else L.take (L.length - i)

theorem rest_end {L : List (Int × Int)} {pop : Bool} {i : Nat} (h : i < L.length) : endOf (rest L pop i) pop = if pop then L[i]? else L[L.length - 1 - i]? := by
  unfold endOf endAt rest
  cases pop
  · simp only [Bool.false_eq_true, if_false]
    rw [List.getElem?_take, List.length_take, Nat.min_eq_left (by omega), if_pos (by omega)]
    congr 1
    omega
  · simp

theorem rest_popped {L : List (Int × Int)} (hn : L.Nodup) {pop : Bool} {i : Nat} (h : i < L.length) : popped (rest L pop i) pop = rest L pop (i + 1) := by
  have hr : (rest L pop i).Nodup := by
    unfold rest
    cases pop
    · exact hn.sublist (List.take_sublist _ _)
    · exact hn.sublist (List.drop_sublist _ _)
  have hl : (rest L pop i).length = L.length - i := by
    unfold rest
    cases pop <;> simp
  have he : endAt (rest L pop i) pop < (rest L pop i).length := by
    unfold endAt
    cases pop <;> simp <;> omega
  unfold popped
  have e : endOf (rest L pop i) pop = some (rest L pop i)[endAt (rest L pop i) pop] := List.getElem?_eq_getElem he
  rw [e]
  simp only []
  unfold removed
  rw [hAt_nodup hr (List.getElem?_eq_getElem he)]
  simp only []
  unfold endAt
  cases pop
  · simp only [Bool.false_eq_true, if_false, rest, List.length_take]
    rw [Nat.min_eq_left (by omega)]
    rw [List.eraseIdx_eq_take_drop_succ, List.take_take, List.drop_eq_nil_of_le (by simp; omega), List.append_nil]
    congr 1
    omega
  · simp only [if_true, rest]
    rw [List.eraseIdx_zero, List.tail_drop]

theorem rest_laid {ins : List (Int × Int)} {push pop : Bool} {i : Nat} (h : i < ins.length) : (if pop then (laid ins push)[i]? else (laid ins push)[ins.length - 1 - i]?) = if push = pop then ins[ins.length - 1 - i]? else ins[i]? := by
  unfold laid
  cases push <;> cases pop <;> simp
  · rw [List.getElem?_reverse (by omega)]
    congr 1
    omega
  · rw [List.getElem?_reverse (by omega)]

end Go.Proofs.Ytagminbfboncoaa
