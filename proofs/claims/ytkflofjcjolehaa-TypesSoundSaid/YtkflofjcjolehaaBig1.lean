/- Types: lemmas on what the functions that the laws reach answer. No conditions of their own beyond those that each theorem states. -/
import Derived.WalkKit
import Derived.ProofKit
import Derived.Deep.Slices
import Derived.Deep.Fields
/-! Arguments opened: a slice whose elements have a shape of their own reads as a list. -/
namespace Go.Proofs.Ytkflofjcjolehaa
open Go.ChangeShapes Go.WideShapes Go.ChangeAt Go.RowKit Go.Deep

/-- The slice at A holds the elements with these cells, C cells each. -/
def SliceOf (w : World) (A : Option Addr) (C : Nat) (L : List (List Value)) : Prop :=
  L = [] ∨ ∃ b off, A = some ⟨b, off, none⟩ ∧ b < w.heap.size ∧ ∀ i cs, L[i]? = some cs → ∀ j v, cs[j]? = some v → w.cell? ⟨b, off + (i * C + j), none⟩ = some v

theorem SliceOf.below {w w' : World} {A : Option Addr} {C : Nat} {L : List (List Value)} (h : SliceOf w A C L) (hb : Below w.heap.size w w') : SliceOf w' A C L := by
  rcases h with h | ⟨b, off, hA, hlt, h⟩
  · exact .inl h
  · refine .inr ⟨b, off, hA, Nat.lt_of_lt_of_le hlt hb.size, fun i cs hi j v hj => ?_⟩
    rw [← h i cs hi j v hj]
    exact hb.cell (p := ⟨b, _, none⟩) hlt

/-- An element of the slice, wherever the walk has come by now: its cells, as the walk spells their places. -/
theorem SliceOf.at_ {w wr : World} {A : Option Addr} {C : Nat} {L : List (List Value)} (h : SliceOf w A C L) (hb : Below w.heap.size w wr) {i : Nat} {cs : List Value} (hi : L[i]? = some cs) :
    ∃ b off, A = some ⟨b, off, none⟩ ∧ b < w.heap.size ∧ ∀ j v, cs[j]? = some v → wr.cell? ⟨b, off + i * C + j, none⟩ = some v := by
  rcases h with h | ⟨b, off, hA, hlt, h⟩
  · rw [h] at hi
    simp at hi
  · refine ⟨b, off, hA, hlt, fun j v hj => ?_⟩
    rw [Nat.add_assoc, ← h i cs hi j v hj]
    exact hb.cell (p := ⟨b, _, none⟩) hlt

section
variable {H : Type} {enc : TypeId × Value → H} {P : Program} {w : World} {base : Nat} {spare : Nat → Bool} {held : Bool}

theorem spot_of_cell {a : Addr} {v : Value} (h : w.cell? a = some v) : a.spot = none ∧ a.block < w.heap.size := by
  refine ⟨?_, World.block_lt_of_cell? w a h⟩
  unfold World.cell? at h
  split at h
  · split at h
    · cases h
    · rename_i hs
      cases hh : a.spot with
      | none => rfl
      | some s => rw [hh] at hs; simp at hs
  · cases h

theorem open_rows {α : Type} [Inhabited α] (cells : α → List Value) (good : α → Prop) {t e : TypeId} {C : Nat} (ht : P.underlying t = some (.slice e)) (hC : P.cellsOf e = C) (hpos : 0 < C)
    (shape : ∀ fuel cs x, DataW.trod enc P w base spare held fuel e cs = some x → ∃ y : α, cs = cells y ∧ good y)
    {A : Option Addr} {n c : Nat} {d : DataW H} {p : List MemPlace} (h : DataW.Trod enc P w base spare held t (.slice A n c) d p) :
    ∃ l : List α, l.length = n ∧ SliceOf w A C (l.map cells) ∧ (∀ x ∈ l, good x) ∧ n ≤ 9223372036854775807 := by
  obtain ⟨fuel, hf⟩ := h
  rcases open_slice ht hf with ⟨hcs, _⟩ | ⟨a, len, cap, m, k, D, Pl, hcs, _, hl, hm, hmm, _, hx⟩
  · simp [Value.cells] at hcs
    obtain ⟨rfl, rfl, rfl⟩ := hcs
    exact ⟨[], rfl, .inl rfl, by simp, by omega⟩
  · simp [Value.cells] at hcs
    obtain ⟨rfl, rfl, rfl⟩ := hcs
    have hnm : n ≤ m := by rw [hmm]; split <;> omega
    obtain ⟨Y, hY⟩ := choose_lt (α := α) (n := n) (p := fun i y => (∀ j v, (cells y)[j]? = some v → w.cell? (a.add (i * C + j)) = some v) ∧ good y ∧ (cells y).length = C) (fun i hi => by
      obtain ⟨cs', h1, h2⟩ := hx i (by omega)
      obtain ⟨y, hy, hg⟩ := shape _ _ _ h2
      obtain ⟨_, hlen, hat⟩ := World.cells?_some h1
      rw [hC] at hlen hat
      rw [hy] at hlen hat
      refine ⟨y, fun j v hj => ?_, hg, hlen⟩
      have hjl : j < C := by
        have := (List.getElem?_eq_some_iff.1 hj).1
        omega
      rw [← Go.Deep.add_add, hat j hjl, hj])
    have hlen : ((List.range n).map Y).length = n := by simp
    refine ⟨(List.range n).map Y, hlen, ?_, ?_, by unfold maxLen at hm; omega⟩
    · rcases Nat.eq_zero_or_pos n with rfl | hn
      · exact .inl rfl
      · right
        obtain ⟨h0, _, hl0⟩ := hY 0 hn
        have hfirst : (cells (Y 0))[0]? = some ((cells (Y 0))[0]'(by omega)) := List.getElem?_eq_getElem (by omega)
        have hc0 := h0 0 _ hfirst
        obtain ⟨hs, hb⟩ := spot_of_cell hc0
        have ha : a = ⟨a.block, a.off, none⟩ := by
          cases a with
          | mk b o s =>
            have : s = none := by
              simpa [Addr.add] using hs
            rw [this]
        have hbb : a.block < w.heap.size := by
          have : (a.add (0 * C + 0)).block = a.block := by simp [Addr.add]
          rw [this] at hb
          exact hb
        refine ⟨a.block, a.off, congrArg some ha, hbb, fun i cs hi j v hj => ?_⟩
        rw [List.getElem?_map] at hi
        obtain ⟨y, hy, rfl⟩ := Option.map_eq_some_iff.1 hi
        have hin : i < n := by
          have := (List.getElem?_eq_some_iff.1 hy).1
          simpa using this
        have hyi : y = Y i := by
          rw [List.getElem?_map, List.getElem?_range hin] at hy
          simpa using hy.symm
        subst hyi
        have := (hY i hin).1 j v hj
        rw [ha] at this
        have he : (Addr.add ⟨a.block, a.off, none⟩ (i * C + j)) = ⟨a.block, a.off + (i * C + j), none⟩ := by
          unfold Addr.add
          split
          · rename_i hz; rw [hz]; rfl
          · rfl
        rw [he] at this
        exact this
    · intro x hx'
      obtain ⟨i, hi, rfl⟩ := List.mem_map.1 hx'
      exact (hY i (List.mem_range.1 hi)).2.1
end

end Go.Proofs.Ytkflofjcjolehaa
