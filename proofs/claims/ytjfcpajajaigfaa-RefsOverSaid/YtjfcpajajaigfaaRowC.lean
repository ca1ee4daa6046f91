import Derived.Test.YtjfcpajajaigfaaBase
import Derived.Laws.AppendOwn
import Derived.OwnWalkIn
import Derived.RangeFuncBox
import Derived.Maps.AppendAt
/-! Rows that are owned, whatever their elements are: element x is written as the cells enc x, C of them. -/
namespace Go.Proofs.Ytjfcpajajaigfaa
open Go.RowKit
set_option linter.unusedSimpArgs false
set_option linter.unusedVariables false

theorem cell_below {B : Nat} {w w' : World} (h : Below B w w') {cb i : Nat} (hc : cb < B) : w'.cell? ⟨cb, i, none⟩ = w.cell? ⟨cb, i, none⟩ := World.cell?_of_block (h.block cb hc)
theorem below_on {w W W' : World} (h : Below w.heap.size w W) (hb : Below W.heap.size W W') : Below w.heap.size w W' := h.trans (hb.mono h.size)
theorem add_g (g o j : Nat) : (⟨g, o, none⟩ : Addr).add j = ⟨g, o + j, none⟩ := by
  unfold Addr.add
  split <;> simp_all

section
variable {α : Type} {enc : α → List Value} {C : Nat}
def rowC (enc : α → List Value) (l : List α) : List Value := l.flatMap enc

theorem rowC_append (a b : List α) : rowC enc (a ++ b) = rowC enc a ++ rowC enc b := by simp [rowC]
theorem rowC_length (hC : ∀ x, (enc x).length = C) (l : List α) : (rowC enc l).length = l.length * C := by
  induction l with
  | nil => simp [rowC]
  | cons x l ih =>
    have : rowC enc (x :: l) = enc x ++ rowC enc l := rfl
    rw [this, List.length_append, hC, ih, List.length_cons, Nat.add_mul, Nat.one_mul, Nat.add_comm]
theorem rowC_at (hC : ∀ x, (enc x).length = C) : ∀ {l : List α} {j : Nat} {x : α}, l[j]? = some x → ∀ i u, (enc x)[i]? = some u → (rowC enc l)[j * C + i]? = some u
  | y :: l, 0, x, h, i, u, hu => by
    simp at h
    subst h
    have hi : i < (enc y).length := (List.getElem?_eq_some_iff.1 hu).1
    show (enc y ++ rowC enc l)[0 * C + i]? = some u
    rw [Nat.zero_mul, Nat.zero_add, List.getElem?_append_left hi]
    exact hu
  | y :: l, j + 1, x, h, i, u, hu => by
    show (enc y ++ rowC enc l)[(j + 1) * C + i]? = some u
    rw [List.getElem?_append_right (by rw [hC, Nat.add_mul, Nat.one_mul]; omega), hC, show (j + 1) * C + i - C = j * C + i by rw [Nat.add_mul, Nat.one_mul]; omega]
    exact rowC_at hC (by simpa using h) i u hu
theorem rowC_set (hC : ∀ x, (enc x).length = C) : ∀ {l : List α} {j : Nat} {x y : α} {i : Nat} {u : Value}, l[j]? = some x → i < C → enc y = (enc x).set i u → rowC enc (l.set j y) = (rowC enc l).set (j * C + i) u
  | z :: l, 0, x, y, i, u, h, hi, hy => by
    simp at h
    subst h
    show enc y ++ rowC enc l = (enc z ++ rowC enc l).set (0 * C + i) u
    rw [Nat.zero_mul, Nat.zero_add, List.set_append_left _ _ (by rw [hC]; exact hi), hy]
  | z :: l, j + 1, x, y, i, u, h, hi, hy => by
    show enc z ++ rowC enc (l.set j y) = (enc z ++ rowC enc l).set ((j + 1) * C + i) u
    rw [List.set_append_right _ _ (by rw [hC, Nat.add_mul, Nat.one_mul]; omega), hC, show (j + 1) * C + i - C = j * C + i by rw [Nat.add_mul, Nat.one_mul]; omega]
    rw [rowC_set hC (by simpa using h) hi hy]
theorem rowC_one (h1 : ∀ x, ∀ u ∈ enc x, u.oneCell' = true) (l : List α) : ∀ u ∈ rowC enc l, u.oneCell' = true := by
  intro u hu
  obtain ⟨x, _, hx⟩ := List.mem_flatMap.1 hu
  exact h1 x u hx
end

section
variable {w w' W : World} {base n size : Nat} {e : TypeId} {v : Value} {xs : List Value}
theorem row_form (h : W.ownsRow base e size v n xs) : ∃ A c, v = .slice A n c := by
  rcases h.2 with ⟨rfl, rfl⟩ | ⟨g, cap, cur, rfl, _⟩
  · exact ⟨_, _, rfl⟩
  · exact ⟨_, _, rfl⟩
theorem owns_block (h : w.ownsRow base e size v n xs) {k : Nat} (hk : v.ownBlock = some k) : ∃ c, Has w k e c := by
  rcases h.2 with ⟨rfl, _⟩ | ⟨g, cap, cur, rfl, _, h5, _⟩
  · simp [Value.ownBlock] at hk
  · simp [Value.ownBlock] at hk
    subst hk
    exact ⟨cur, h5⟩
theorem owns_base (h : w.ownsRow base e size v n xs) {k : Nat} (hk : v.ownBlock = some k) : base ≤ k := by
  rcases h.2 with ⟨rfl, _⟩ | ⟨g, cap, cur, rfl, h5, _⟩
  · simp [Value.ownBlock] at hk
  · simp [Value.ownBlock] at hk
    omega
theorem owns_lt (h : w.ownsRow base e size v n xs) {k : Nat} (hk : v.ownBlock = some k) : k < w.heap.size := by
  obtain ⟨c, hc⟩ := owns_block h hk
  exact hc.lt
/-- A row stays where its block does. -/
theorem owns_kept (h : w.ownsRow base e size v n xs) (hk : ∀ k, v.ownBlock = some k → w'.heap[k]? = w.heap[k]?) : w'.ownsRow base e size v n xs := by
  obtain ⟨h1, h2⟩ := h
  refine ⟨h1, ?_⟩
  rcases h2 with h2 | ⟨g, cap, cur, rfl, h4, h5, h6⟩
  · exact .inl h2
  · exact .inr ⟨g, cap, cur, rfl, h4, (hk g rfl).trans h5, h6⟩
theorem owns_below (h : w.ownsRow base e size v n xs) (hb : Below w.heap.size w w') : w'.ownsRow base e size v n xs := owns_kept h (fun k hk => hb.block k (owns_lt h hk))
theorem owns_turned {S : Nat → Prop} (h : w.ownsRow base e size v n xs) (ht : Turned S w w') (hS : ∀ k, v.ownBlock = some k → ¬ S k) : w'.ownsRow base e size v n xs := owns_kept h (fun k hk => ht.block k (owns_lt h hk) (hS k hk))
theorem owns_mono {base' : Nat} (h : w.ownsRow base e size v n xs) (hb : base' ≤ base) : w.ownsRow base' e size v n xs := by
  obtain ⟨h1, h2⟩ := h
  refine ⟨h1, ?_⟩
  rcases h2 with h2 | ⟨g, cap, cur, h3, h4, h5⟩
  · exact .inl h2
  · exact .inr ⟨g, cap, cur, h3, by omega, h5⟩
theorem owns_cell {cap m g : Nat} (h : W.ownsRow base e size (.slice (some ⟨g, 0, none⟩) m cap) n xs) {j : Nat} {u : Value} (hj : xs[j]? = some u) : W.cell? ⟨g, j, none⟩ = some u ∧ W.frozen? ⟨g, j, none⟩ = false := by
  obtain ⟨h1, h2⟩ := h
  rcases h2 with ⟨h2, _⟩ | ⟨g2, cap2, cur, h3, h4, h5, h6, h7, h8, h9⟩
  · cases h2
  · injection h3 with h3 h10 h11
    injection h3 with h3
    injection h3 with h3
    subst h3
    have hH : Has W g e cur := h5
    refine ⟨?_, hH.free j⟩
    rw [hH.cell]
    have hjl : j < xs.length := (List.getElem?_eq_some_iff.1 hj).1
    rw [← h9, List.getElem?_take] at hj
    split at hj
    · simpa using hj
    · cases hj
theorem owns_set {cap m g : Nat} (h : W.ownsRow base e size (.slice (some ⟨g, 0, none⟩) m cap) n xs) {j : Nat} (hj : j < xs.length) (u : Value) : (W.setCell ⟨g, j, none⟩ u).ownsRow base e size (.slice (some ⟨g, 0, none⟩) m cap) n (xs.set j u) := by
  obtain ⟨h1, h2⟩ := h
  refine ⟨by rw [List.length_set]; exact h1, ?_⟩
  rcases h2 with ⟨h2, _⟩ | ⟨g2, cap2, cur, h3, h4, h5, h6, h7, h8, h9⟩
  · cases h2
  · injection h3 with h3 h10 h11
    injection h3 with h3
    injection h3 with h3
    subst h3 h10 h11
    have hH : Has W g e cur := h5
    refine .inr ⟨g, cap, cur.setIfInBounds j u, rfl, h4, hH.set j u, h6, h7, by rw [Array.size_setIfInBounds]; exact h8, ?_⟩
    rw [Array.toList_setIfInBounds, List.take_set, h9]
theorem owns_slice {cap m g : Nat} (h : W.ownsRow base e size (.slice (some ⟨g, 0, none⟩) m cap) n xs) : m = n ∧ n ≤ cap ∧ cap ≤ maxLen ∧ base ≤ g ∧ g < W.heap.size := by
  obtain ⟨h1, h2⟩ := h
  rcases h2 with ⟨h2, _⟩ | ⟨g2, cap2, cur, h3, h4, h5, h6, h7, h8, h9⟩
  · cases h2
  · injection h3 with h3 h10 h11
    injection h3 with h3
    injection h3 with h3
    subst h3 h10 h11
    exact ⟨rfl, h6, h7, h4, (show Has W g e cur from h5).lt⟩
theorem owns_some (h : W.ownsRow base e size v n xs) (hn : 0 < n) : ∃ g cap, v = .slice (some ⟨g, 0, none⟩) n cap := by
  rcases h.2 with ⟨_, rfl⟩ | ⟨g, cap, cur, rfl, _⟩
  · omega
  · exact ⟨_, _, rfl⟩
end

section
variable {w W : World} {g l : Nat} {o : Obj} {t : TypeId} {cs : Array Value}
theorem heap_turn {k : Nat} {c : Array Value} {s : Nat × Nat} (h : W.heap[k]? = some (.cells c t s)) (hl : ∃ o', W.heap[l]? = some o' ∧ o'.isCells = false) : (W.putObj l o).heap[k]? = some (.cells c t s) := by
  obtain ⟨o', h1, h2⟩ := hl
  have hne : k ≠ l := fun e => by
    subst e
    rw [h] at h1
    cases h1
    cases h2
  exact (World.putObj_heap_other hne).trans h
theorem Has.turn (h : Has W g t cs) (hl : ∃ o', W.heap[l]? = some o' ∧ o'.isCells = false) : Has (W.putObj l o) g t cs := heap_turn h hl
theorem Has.grown {W' : World} (h : Has W g t cs) (hg : W.grownBy W' none) : Has W' g t cs := (hg.block g h.lt (by simp)).trans h
theorem below_turn {B : Nat} (h : Below B w W) (hl : B ≤ l) : Below B w (W.putObj l o) :=
  ⟨h.os, h.tape, h.output, by simpa using h.size, fun k hk => (World.putObj_heap_other (by omega)).trans (h.block k hk)⟩
theorem below_grow {B : Nat} {W' : World} (h : Below B w W) (hB : B ≤ W.heap.size) (hg : W.grownBy W' none) : Below B w W' :=
  h.trans ⟨hg.os, hg.tape, hg.output, hg.size, fun k hk => hg.block k (by omega) (by simp)⟩
theorem turned_turn {S : Nat → Prop} (h : Turned S w W) (hl : w.heap.size ≤ l) : Turned S w (W.putObj l o) :=
  ⟨h.os, h.tape, h.output, by simpa using h.size, fun k hk hn => (World.putObj_heap_other (by omega)).trans (h.block k hk hn)⟩
theorem turned_grow {S : Nat → Prop} {W' : World} (h : Turned S w W) (hg : W.grownBy W' none) : Turned S w W' :=
  h.trans ⟨hg.os, hg.tape, hg.output, hg.size, fun k hk _ => hg.block k hk (by simp)⟩
theorem owns_turn {base n size : Nat} {e : TypeId} {v : Value} {xs : List Value} (h : W.ownsRow base e size v n xs) (hl : ∃ o', W.heap[l]? = some o' ∧ o'.isCells = false) : (W.putObj l o).ownsRow base e size v n xs :=
  owns_kept h (fun k hk => by
    obtain ⟨c, hc⟩ := owns_block h hk
    exact (heap_turn hc hl).trans (show W.heap[k]? = some (.cells c e (0, 0)) from hc).symm)
theorem owns_grown {W' : World} {base n size : Nat} {e : TypeId} {v : Value} {xs : List Value} (h : W.ownsRow base e size v n xs) (hg : W.grownBy W' none) : W'.ownsRow base e size v n xs :=
  owns_kept h (fun k hk => hg.block k (owns_lt h hk) (by simp))
end

end Go.Proofs.Ytjfcpajajaigfaa
