import Derived.Test.YtdlgipoaimgbpaaAluOps
/-! alu.pairs, alu.Turned, alu.Other. -/
namespace Go.Proofs.Ytdlgipoaimgbpaa
open Go.RowKit Go.Maps
set_option maxHeartbeats 1000000
set_option maxRecDepth 100000

/-- The other one of a pair that a code is in. -/
def pairOf (c : Int) : List (Int × Int) → Int × Bool
  | [] => (0, false)
  | (p, q) :: l => if c = p then (q, true) else if c = q then (p, true) else pairOf c l

def pairCells (l : List (Int × Int)) : List Value := l.flatMap fun p => [.int .u8 p.1, .int .u8 p.2]

theorem pairCells_length (l : List (Int × Int)) : (pairCells l).length = 2 * l.length := by
  induction l with
  | nil => rfl
  | cons p l ih =>
    show (_ :: _ :: pairCells l).length = _
    simp [ih]
    omega

theorem pairCells_at (l : List (Int × Int)) (k : Nat) (p : Int × Int) (h : l[k]? = some p) : (pairCells l)[k * 2]? = some (.int .u8 p.1) ∧ (pairCells l)[k * 2 + 1]? = some (.int .u8 p.2) := by
  induction l generalizing k with
  | nil => simp at h
  | cons q l ih =>
    cases k with
    | zero =>
      simp at h
      subst h
      exact ⟨rfl, rfl⟩
    | succ k =>
      have h2 := ih k (by simpa using h)
      rw [show (k + 1) * 2 = k * 2 + 1 + 1 by omega]
      exact h2

theorem pair_step (c : Int) (l : List (Int × Int)) (k : Nat) (p : Int × Int) (h : l[k]? = some p) : pairOf c (l.drop k) = if c = p.1 then (p.2, true) else if c = p.2 then (p.1, true) else pairOf c (l.drop (k + 1)) := by
  have hk : k < l.length := (List.getElem?_eq_some_iff.1 h).1
  rw [List.drop_eq_getElem_cons hk, (List.getElem?_eq_some_iff.1 h).2]
  rfl

def PairPost (w : World) (r : Int × Bool) (e : Ending) (w' : World) : Prop := e = .returned (.tuple #[.int .u8 r.1, .bool r.2]) ∧ Below w.heap.size w w'

theorem alu_pairs (w : World) (c : Int) (b : Nat) (l : List (Int × Int)) (n : Nat) (hn : l.length = n) (hn1 : n < 100) (h : Has w b 80 (pairCells l).toArray) :
    Calls Try.prog 61 #[.int .u8 c, .slice (some ⟨b, 0, none⟩) n n] w (PairPost w (pairOf c l)) := by
  have hcells : ∀ k p, l[k]? = some p → w.cell? ⟨b, k * 2, none⟩ = some (.int .u8 p.1) ∧ w.cell? ⟨b, k * 2 + 1, none⟩ = some (.int .u8 p.2) := by
    intro k p hp
    obtain ⟨h1, h2⟩ := pairCells_at l k p hp
    rw [h.cell, h.cell, List.getElem?_toArray, List.getElem?_toArray]
    exact ⟨h1, h2⟩
  have hb : b < w.heap.size := h.lt
  have HC := hide hcells
  have HN := hide hn
  clear hcells h hn
  go_enter Try.func61, Try.ntmps61
  go_wp2_with fail
  go_loopw [10] (fun i wr => ∃ k : Nat, k ≤ n ∧ i = .int .i64 k ∧ pairOf c (l.drop k) = pairOf c l ∧ Below w.heap.size w wr)
    (fun i _ => n - (intOf i).toNat)
  case atStart => exact ⟨0, Nat.zero_le _, rfl, rfl, Below.refl _ _⟩
  case round =>
    obtain ⟨k, hk, rfl, hp, hB⟩ := hrel
    by_cases hlt : k < n
    · obtain ⟨⟨x, y⟩, hxy⟩ : ∃ p, l[k]? = some p := ⟨_, List.getElem?_eq_getElem (by rw [HN.out]; exact hlt)⟩
      have hs := pair_step c l k _ hxy
      obtain ⟨e0, e1⟩ := HC.out k _ hxy
      have e0 : wr.cell? ⟨b, k * 2, none⟩ = some (.int .u8 x) := (hB.cell (p := ⟨b, _, none⟩) hb).trans e0
      have e1 : wr.cell? ⟨b, k * 2 + 1, none⟩ = some (.int .u8 y) := (hB.cell (p := ⟨b, _, none⟩) hb).trans e1
      rw [hs] at hp
      have HP := hide hp
      clear hp hs
      by_cases hx : c = x
      · have d0 : (c == x) = true := by simp [hx]
        have HX := hide hx
        clear hx
        go_wp2_with fail
        go_ret2
        refine ⟨?_, hB.alloc hB.size _⟩
        rw [← HP.out, if_pos HX.out]
        rfl
      · have d0 : (c == x) = false := by simp [hx]
        have HX := hide hx
        clear hx
        by_cases hy : c = y
        · have d1 : (c == y) = true := by simp [hy]
          have HY := hide hy
          clear hy
          go_wp2_with fail
          go_ret2
          refine ⟨?_, hB.alloc hB.size _⟩
          rw [← HP.out, if_neg HX.out, if_pos HY.out]
          rfl
        · have d1 : (c == y) = false := by simp [hy]
          have HY := hide hy
          clear hy
          go_wp2_with fail
          go_roundw
          case rel => exact ⟨k + 1, by omega, by go_num, by rw [← HP.out, if_neg HX.out, if_neg HY.out], hB.alloc hB.size _⟩
          case measure => simp [intOf]; omega
    · go_wp2_with fail
      go_ret2
      refine ⟨?_, hB⟩
      rw [← hp, List.drop_of_length_le (by rw [HN.out]; omega)]
      rfl

def turnedPairs : List (Int × Int) := [(10, 2), (11, 3), (12, 6), (13, 7), (1, 1), (5, 5), (4, 4)]
def otherPairs : List (Int × Int) := [(10, 3), (11, 2), (12, 7), (13, 6), (1, 5)]

theorem alu_turned (w : World) (c : Int) : Calls Try.prog 27 #[.int .u8 c] w (PairPost w (pairOf c turnedPairs)) := by
  have hC : ∀ W b, Has W b 80 (pairCells turnedPairs).toArray → Calls Try.prog 61 #[.int .u8 c, .slice (some ⟨b, 0, none⟩) 7 7] W (PairPost W (pairOf c turnedPairs)) := fun W b h => alu_pairs W c b turnedPairs 7 rfl (by omega) h
  obtain ⟨r, hr⟩ : ∃ r, pairOf c turnedPairs = r := ⟨_, rfl⟩
  rw [hr] at hC ⊢
  have HC := hide hC
  clear hC hr
  go_enter Try.func27, Try.ntmps27
  go_wp2_with fail
  refine (HC.out _ _ (Has.new w _ _)).mono ?_
  rintro e w2 ⟨rfl, hb⟩
  go_wp2_with fail
  go_ret2
  exact ⟨rfl, ((Below.refl _ _).alloc (Nat.le_refl _) _).trans (hb.mono (by simp))⟩

theorem alu_other (w : World) (c : Int) : Calls Try.prog 29 #[.int .u8 c] w (PairPost w (pairOf c otherPairs)) := by
  have hC : ∀ W b, Has W b 80 (pairCells otherPairs).toArray → Calls Try.prog 61 #[.int .u8 c, .slice (some ⟨b, 0, none⟩) 5 5] W (PairPost W (pairOf c otherPairs)) := fun W b h => alu_pairs W c b otherPairs 5 rfl (by omega) h
  obtain ⟨r, hr⟩ : ∃ r, pairOf c otherPairs = r := ⟨_, rfl⟩
  rw [hr] at hC ⊢
  have HC := hide hC
  clear hC hr
  go_enter Try.func29, Try.ntmps29
  go_wp2_with fail
  refine (HC.out _ _ (Has.new w _ _)).mono ?_
  rintro e w2 ⟨rfl, hb⟩
  go_wp2_with fail
  go_ret2
  exact ⟨rfl, ((Below.refl _ _).alloc (Nat.le_refl _) _).trans (hb.mono (by simp))⟩

end Go.Proofs.Ytdlgipoaimgbpaa
