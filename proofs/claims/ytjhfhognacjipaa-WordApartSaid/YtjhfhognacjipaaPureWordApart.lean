/- WordApart in plain Lean: two numbers that are set in a text, in either order. -/
import Derived.Test.YtjhfhognacjipaaHWordApartx1
import Derived.Test.YtjhfhognacjipaaWf
import Derived.Test.YtjhfhognacjipaaWordSets
namespace Go.Proofs.Ytjhfhognacjipaa.Pure
open Go.RowKit Go.Proofs.Ytjhfhognacjipaa.HWordApart Go.Proofs.YtjhfhognacjipaaW.PrintWords Go.Proofs.YtjhfhognacjipaaW.PrintLast Go.Proofs.YtjhfhognacjipaaW.PrintMore

theorem alive_true : wardenlaw01_alive.f = some true := by decide +kernel

theorem inner (s : ByteArray) (i j x y : Int) (hs : s.size ≤ 4096) (hx : 0 ≤ x ∧ x < 18446744073709551616) (hy : 0 ≤ y ∧ y < 18446744073709551616) (k : Nat) (p q : Int) (hp : 0 ≤ p ∧ p < 4) (hq : 0 ≤ q ∧ q < 4) :
    wardenlaw01_WordApart.l1 (k + 2) s i j x y [1, 2, 4, 8] p q = wardenlaw01_WordApart.l1 k s i j x y [1, 2, 4, 8] p (q + 1) := by
  have wq : wrap64 (q + 1) = q + 1 := by unfold wrap64; omega
  have a1 : word_Set.f s i x (rd [1, 2, 4, 8] p) = some (wordSet s i x (rd [1, 2, 4, 8] p)) := if_pos ⟨by omega, hx⟩
  have a2 : word_Set.f s j y (rd [1, 2, 4, 8] q) = some (wordSet s j y (rd [1, 2, 4, 8] q)) := if_pos ⟨by omega, hy⟩
  generalize hn : rd [1, 2, 4, 8] p = n at *
  generalize hm : rd [1, 2, 4, 8] q = m at *
  have hl : ((([1, 2, 4, 8] : List Int).length : Nat) : Int) = 4 := rfl
  rw [show k + 2 = (k + 1) + 1 from rfl]
  simp only [wardenlaw01_WordApart.l1]
  rw [hl, if_pos hq.2, if_pos hp.1, if_pos hp.2, hn, a1]
  simp only [Option.bind_some]
  rw [if_pos hq.1, hm, a2]
  simp only [Option.bind_some]
  have skip : ∀ a b, wardenlaw01_WordApart.j2 (k + 1) s i j x y [1, 2, 4, 8] p q a b true = wardenlaw01_WordApart.l1 k s i j x y [1, 2, 4, 8] p (q + 1) := by
    intro a b
    simp only [wardenlaw01_WordApart.j2, if_true, wq]
  by_cases h1 : (wordSet s i x n).2 = 0
  · rw [if_pos h1]
    by_cases h2 : (wordSet s j y m).2 = 0
    · rw [show ((wordSet s j y m).2 != 0) = false by simp [h2]]
      rw [set_err] at h1 h2
      obtain ⟨_, _, _, d1⟩ := set_ok s i x n h1
      obtain ⟨_, _, _, d2⟩ := set_ok s j y m h2
      obtain ⟨p1, p2, p3, p4⟩ := wordGet_ok h1
      obtain ⟨q1, q2, q3, q4⟩ := wordGet_ok h2
      have b1 : word_Set.f (wordSet s i x n).1 j y m = some (wordSet (wordSet s i x n).1 j y m) := if_pos ⟨by omega, hy⟩
      have b2 : word_Set.f (wordSet s j y m).1 i x n = some (wordSet (wordSet s j y m).1 i x n) := if_pos ⟨by omega, hx⟩
      have w1 : wrap64 (j - n) = j - n := by unfold wrap64; omega
      have w2 : wrap64 (i - m) = i - m := by unfold wrap64; omega
      have same : i = j → n = m → (wordSet (wordSet s i x n).1 j y m).1 = (wordSet s j y m).1 := by
        rintro rfl rfl
        exact set_again s i x y n h1
      simp only [wardenlaw01_WordApart.j2]
      rw [if_neg (by decide), hl, if_pos hq.1, if_pos hq.2, hm, b1]
      simp only [Option.bind_some]
      rw [if_pos hp.1, if_pos hp.2, hn, b2]
      simp only [Option.bind_some]
      rw [w1, w2, wq]
      by_cases c1 : i ≤ j - n
      · rw [if_pos c1, if_pos (by rw [set_comm s i j x y n m h1 h2 (.inl c1)])]
        by_cases c3 : i = j
        · rw [if_pos c3]
          by_cases c4 : n = m
          · rw [if_pos c4, if_pos (by rw [same c3 c4])]
          · rw [if_neg c4]
        · rw [if_neg c3]
      · rw [if_neg c1]
        by_cases c2 : j ≤ i - m
        · rw [if_pos c2, if_pos (by rw [set_comm s i j x y n m h1 h2 (.inr c2)])]
          by_cases c3 : i = j
          · rw [if_pos c3]
            by_cases c4 : n = m
            · rw [if_pos c4, if_pos (by rw [same c3 c4])]
            · rw [if_neg c4]
          · rw [if_neg c3]
        · rw [if_neg c2]
          by_cases c3 : i = j
          · rw [if_pos c3]
            by_cases c4 : n = m
            · rw [if_pos c4, if_pos (by rw [same c3 c4])]
            · rw [if_neg c4]
          · rw [if_neg c3]
    · rw [show ((wordSet s j y m).2 != 0) = true by simp [h2]]
      exact skip _ _
  · rw [if_neg h1]
    exact skip _ _

theorem outer (s : ByteArray) (i j x y : Int) (hs : s.size ≤ 4096) (hx : 0 ≤ x ∧ x < 18446744073709551616) (hy : 0 ≤ y ∧ y < 18446744073709551616) (k : Nat) (p : Int) (hp : 0 ≤ p ∧ p < 4) : wardenlaw01_WordApart.l0 (k + 10) s i j x y [1, 2, 4, 8] p = wardenlaw01_WordApart.l0 k s i j x y [1, 2, 4, 8] (p + 1) := by
  have wp : wrap64 (p + 1) = p + 1 := by unfold wrap64; omega
  have hl : ((([1, 2, 4, 8] : List Int).length : Nat) : Int) = 4 := rfl
  have e : wardenlaw01_WordApart.l0 (k + 10) s i j x y [1, 2, 4, 8] p = wardenlaw01_WordApart.l1 (k + 9) s i j x y [1, 2, 4, 8] p 0 := by
    rw [show k + 10 = (k + 9) + 1 from rfl]
    simp only [wardenlaw01_WordApart.l0]
    rw [hl, if_pos hp.2]
  rw [e, inner s i j x y hs hx hy (k + 7) p 0 hp (by decide), inner s i j x y hs hx hy (k + 5) p (0 + 1) hp (by decide), inner s i j x y hs hx hy (k + 3) p (0 + 1 + 1) hp (by decide),
    inner s i j x y hs hx hy (k + 1) p (0 + 1 + 1 + 1) hp (by decide)]
  simp only [wardenlaw01_WordApart.l1]
  rw [hl, if_neg (by decide), wp]

theorem WordApart : wardenlaw01_WordApart.Pure := by
  intro s i j x y _ _ _ hx hy
  have h1 := wf_u64 hx
  have h2 := wf_u64 hy
  refine ⟨41, ?_⟩
  unfold wardenlaw01_WordApart.f
  split
  · rw [alive_true]; rfl
  · have hs : s.size ≤ 4096 := by omega
    rw [show wardenlaw01_sizes.f = some [1, 2, 4, 8] from rfl]
    simp only [Option.bind_some]
    rw [outer s i j x y hs h1 h2 31 0 (by decide), outer s i j x y hs h1 h2 21 (0 + 1) (by decide), outer s i j x y hs h1 h2 11 (0 + 1 + 1) (by decide), outer s i j x y hs h1 h2 1 (0 + 1 + 1 + 1) (by decide)]
    simp only [wardenlaw01_WordApart.l0]
    rw [if_neg (by decide), alive_true]
    rfl

end Go.Proofs.Ytjhfhognacjipaa.Pure
