/- Types: lemmas on what the functions that the laws reach answer. No conditions of their own beyond those that each theorem states. -/
import Derived.Test.YtkflofjcjolehaaWWords
import Derived.Test.YtkflofjcjolehaaBig1
/-! What an argument reads as, whatever its kind: numbers, bools, strings, slices and structs of these, one in another. -/
namespace Go.Proofs.Ytkflofjcjolehaa
open Go.ChangeShapes Go.WideShapes Go.ChangeAt Go.RowKit Go.Deep Go.Proofs.YtkflofjcjolehaaW.PrintWords

/-- Whatever is read at type t is of kind d, and good. -/
structure Opens (P : Program) (t : TypeId) {α : Type} (d : Kd α) (good : α → Prop) : Prop where
  sz : d.sz = P.cellsOf t
  opens : ∀ {H : Type} {enc : TypeId × Value → H} {w : World} {base : Nat} {spare : Nat → Bool} {held : Bool} {fuel : Nat} {cs : List Value} {x : DataW H × List MemPlace},
    DataW.trod enc P w base spare held fuel t cs = some x → ∃ y : α, d.K w y cs ∧ good y

section
variable {P : Program} {t e : TypeId}

theorem Opens.int {q : IntKind} (hu : P.underlying t = some (.int q)) (hc : P.cellsOf t = 1) : Opens P t (Kd.int q) (fun x => (Lit.int q x).wf = true) :=
  ⟨hc.symm, fun h => by obtain ⟨n, e, _, w⟩ := DataW.trod_int hu h; exact ⟨n, e, w⟩⟩

theorem Opens.bool (hu : P.underlying t = some .bool) (hc : P.cellsOf t = 1) : Opens P t Kd.bool (fun _ => True) :=
  ⟨hc.symm, fun h => by obtain ⟨n, e, _⟩ := DataW.trod_bool hu h; exact ⟨n, e, trivial⟩⟩

theorem Opens.string (hu : P.underlying t = some .string) (hc : P.cellsOf t = 1) : Opens P t Kd.string (fun x => x.size ≤ maxLen) :=
  ⟨hc.symm, fun h => by obtain ⟨n, e, _, w⟩ := DataW.trod_string hu h; exact ⟨n, e, w⟩⟩

theorem Opens.slice {α : Type} [Inhabited α] {d : Kd α} {good : α → Prop} (hu : P.underlying t = some (.slice e)) (hc : P.cellsOf t = 1) (hd : Opens P e d good) :
    Opens P t (Kd.slice e d) (fun l => l.length ≤ maxLen ∧ ∀ x ∈ l, good x) := by
  refine ⟨hc.symm, fun {H enc w base spare held fuel cs x} h => ?_⟩
  rcases open_slice hu h with ⟨rfl, _⟩ | ⟨a, len, cap, m, k, D, Pl, rfl, _, hl, hm, hmm, _, hx⟩
  · exact ⟨[], ⟨none, 0, rfl, Nat.le_refl _, rfl, by simp, fun h => by simp at h⟩, by simp, by simp⟩
  · have hnm : len ≤ m := by rw [hmm]; split <;> omega
    obtain ⟨Y, hY⟩ := choose_lt (α := α) (n := len) (p := fun i y => (∃ c, c.length = d.sz ∧ d.K w y c ∧ ∀ j u, c[j]? = some u → w.cell? (a.add (i * d.sz + j)) = some u) ∧ good y) (fun i hi => by
      obtain ⟨cs', h1, h2⟩ := hx i (by omega)
      obtain ⟨y, hy, hg⟩ := hd.opens h2
      obtain ⟨_, hlen, hat⟩ := World.cells?_some h1
      rw [← hd.sz] at hlen hat
      refine ⟨y, ⟨cs', hlen, hy, fun j v hj => ?_⟩, hg⟩
      have hjl : j < d.sz := by
        have := (List.getElem?_eq_some_iff.1 hj).1
        omega
      rw [← Go.Deep.add_add, hat j hjl, hj])
    refine ⟨(List.range len).map Y, ⟨some a, cap, by simp, by simpa using hl, by simp, ?_, fun _ => ⟨a, rfl, fun j p hj => ?_⟩⟩, by simp; omega, ?_⟩
    · simp
      unfold maxLen at hm
      omega
    · rw [List.getElem?_map] at hj
      obtain ⟨i, hi, rfl⟩ := Option.map_eq_some_iff.1 hj
      have hin : j < len := by
        have := (List.getElem?_eq_some_iff.1 hi).1
        simpa using this
      rw [List.getElem?_range hin] at hi
      obtain rfl : j = i := by simpa using hi
      exact (hY j hin).1
    · intro x hx'
      obtain ⟨i, hi, rfl⟩ := List.mem_map.1 hx'
      exact (hY i (List.mem_range.1 hi)).2

theorem Opens.iso {α β : Type} {d : Kd α} {good : α → Prop} (f : β → α) (g : α → β) (hfg : ∀ x, f (g x) = x) (h : Opens P t d good) : Opens P t (Kd.iso d f) (fun x => good (f x)) :=
  ⟨h.sz, fun hx => by obtain ⟨y, hy, hg⟩ := h.opens hx; exact ⟨g y, by show d.K _ (f (g y)) _; rw [hfg]; exact hy, by show good (f (g y)); rw [hfg]; exact hg⟩⟩
end

end Go.Proofs.Ytkflofjcjolehaa
