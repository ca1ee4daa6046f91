/- AluAsks in plain Lean: of two numbers just one holds of being the same, below, above; a code's contrary, and the code turned. -/
import Derived.Test.YtdlgipoaimgbpaaHAluAsksx2
import Derived.Test.YtdlgipoaimgbpaaAluPure
import Derived.Test.YtdlgipoaimgbpaaWf
namespace Go.Proofs.Ytdlgipoaimgbpaa.Pure
open Go.RowKit Go.Proofs.Ytdlgipoaimgbpaa.HAluAsks Go.Proofs.YtdlgipoaimgbpaaW.PrintWords Go.Proofs.YtdlgipoaimgbpaaW.PrintLast

theorem alive_true : wardenlaw02_alive.f = some true := by decide +kernel

theorem and_comm_ (x y : Int) : bits .and .u64 x y = bits .and .u64 y x := by
  unfold bits
  simp only [BitVec.and_comm]

theorem turned_spec (c x y s t : Int) (h : (pairOf c turnedPairs).2 = true) :
    (askOf c x y s t).2 = 0 ∧ (askOf (pairOf c turnedPairs).1 y x t s).1 = (askOf c x y s t).1 ∧ (pairOf (pairOf c turnedPairs).1 turnedPairs).1 = c := by
  by_cases g : c = 1 ∨ c = 2 ∨ c = 3 ∨ c = 4 ∨ c = 5 ∨ c = 6 ∨ c = 7 ∨ c = 10 ∨ c = 11 ∨ c = 12 ∨ c = 13
  · rcases g with rfl | rfl | rfl | rfl | rfl | rfl | rfl | rfl | rfl | rfl | rfl
    all_goals refine ⟨rfl, ?_, rfl⟩
    · show (y == x) = (x == y)
      exact BEq.comm
    · rfl
    · rfl
    · show (bits .and .u64 y x != 0) = (bits .and .u64 x y != 0)
      rw [and_comm_]
    · show (y != x) = (x != y)
      exact bne_comm
    all_goals rfl
  · unfold turnedPairs at h
    simp only [pairOf] at h
    simp (disch := omega) only [if_neg] at h
    cases h

theorem other_spec (c x y s t : Int) (h : (pairOf c otherPairs).2 = true) :
    (askOf c x y s t).2 = 0 ∧ ((askOf (pairOf c otherPairs).1 x y s t).1 != (askOf c x y s t).1) = true ∧ (pairOf (pairOf c otherPairs).1 otherPairs).1 = c := by
  have hnd : ∀ p q : Int, (decide (p < q) != decide (q ≤ p)) = true := fun p q => by
    by_cases h : p < q
    · simp [h]
    · simp [h, Int.not_lt.1 h]
  have hnd2 : ∀ p q : Int, (decide (q ≤ p) != decide (p < q)) = true := fun p q => by rw [bne_comm]; exact hnd p q
  by_cases g : c = 1 ∨ c = 2 ∨ c = 3 ∨ c = 5 ∨ c = 6 ∨ c = 7 ∨ c = 10 ∨ c = 11 ∨ c = 12 ∨ c = 13
  · rcases g with rfl | rfl | rfl | rfl | rfl | rfl | rfl | rfl | rfl | rfl
    all_goals refine ⟨rfl, ?_, rfl⟩
    · show ((x != y) != (x == y)) = true
      cases h : x == y <;> simp [bne, h]
    · exact hnd2 y x
    · exact hnd x y
    · show ((x == y) != (x != y)) = true
      cases h : x == y <;> simp [bne, h]
    · exact hnd2 t s
    · exact hnd s t
    · exact hnd2 x y
    · exact hnd y x
    · exact hnd2 s t
    · exact hnd t s
  · unfold otherPairs at h
    simp only [pairOf] at h
    simp (disch := omega) only [if_neg] at h
    cases h

theorem bit_one (x : Int) (h0 : 0 ≤ x) (h1 : x < 18446744073709551616) : bits .and .u64 x 1 = x % 2 := by
  obtain ⟨k, rfl⟩ := Int.eq_ofNat_of_zero_le h0
  have h := (bits_nat k 1 (by omega) (by decide)).1
  have e : k &&& 1 = k % 2 := Nat.and_two_pow_sub_one_eq_mod k 1
  rw [e] at h
  exact h

theorem AluAsks : wardenlaw02_AluAsks.Pure := by
  intro c wide a b hc ha hb
  have ha := wf_u64 ha
  have hb := wf_u64 hb
  have hp := aluMod_pos wide
  obtain ⟨x, hx⟩ : ∃ x, a % aluMod wide = x := ⟨_, rfl⟩
  obtain ⟨y, hy⟩ : ∃ x, b % aluMod wide = x := ⟨_, rfl⟩
  have x0 : 0 ≤ x := by rw [← hx]; exact Int.emod_nonneg a (by omega)
  have x1 : x < aluMod wide := by rw [← hx]; exact Int.emod_lt_of_pos a hp
  have y0 : 0 ≤ y := by rw [← hy]; exact Int.emod_nonneg b (by omega)
  have y1 : y < aluMod wide := by rw [← hy]; exact Int.emod_lt_of_pos b hp
  obtain ⟨s, hs⟩ : ∃ s, (if x < aluMod wide / 2 then x else x - aluMod wide) = s := ⟨_, rfl⟩
  obtain ⟨t, ht⟩ : ∃ s, (if y < aluMod wide / 2 then y else y - aluMod wide) = s := ⟨_, rfl⟩
  have hA : ∀ k, aluAsks k wide a b = askOf k x y s t := fun k => by
    unfold aluAsks
    rw [low_mod, low_mod, hx, hy, sign_mod x wide x0 x1, sign_mod y wide y0 y1, hs, ht]
  have hB : ∀ k, aluAsks k wide b a = askOf k y x t s := fun k => by
    unfold aluAsks
    rw [low_mod, low_mod, hx, hy, sign_mod x wide x0 x1, sign_mod y wide y0 y1, hs, ht]
  have fA : ∀ k, alu_Asks.f k wide a b = some (askOf k x y s t) := fun k => by
    rw [← hA]
    exact if_pos ⟨ha, hb⟩
  have fB : ∀ k, alu_Asks.f k wide b a = some (askOf k y x t s) := fun k => by
    rw [← hB]
    exact if_pos ⟨hb, ha⟩
  have e3 : wardenlaw02_AluAsks.j2 2 c wide a b false = some true := by
    have hj3 : wardenlaw02_AluAsks.j3 1 c wide a b (askOf c x y s t).1 (askOf c x y s t).2 (pairOf c otherPairs).1 (pairOf c otherPairs).2 = some true := by
      simp only [wardenlaw02_AluAsks.j3]
      by_cases ho : (pairOf c otherPairs).2 = true
      · obtain ⟨o1, o2, o3⟩ := other_spec c x y s t ho
        rw [if_pos ho, fA, show alu_Other.f (pairOf c otherPairs).1 = some (pairOf (pairOf c otherPairs).1 otherPairs) from rfl]
        simp only [Option.bind_some]
        rw [if_pos o1, if_pos o2, if_pos o3, alive_true]
        rfl
      · rw [if_neg ho, alive_true]
        rfl
    simp only [wardenlaw02_AluAsks.j2, Bool.false_eq_true, if_false]
    rw [fA, show alu_Turned.f c = some (pairOf c turnedPairs) from rfl, show alu_Other.f c = some (pairOf c otherPairs) from rfl]
    simp only [Option.bind_some]
    by_cases hu : (pairOf c turnedPairs).2 = true
    · obtain ⟨o1, o2, o3⟩ := turned_spec c x y s t hu
      rw [if_pos hu, fB, show alu_Turned.f (pairOf c turnedPairs).1 = some (pairOf (pairOf c turnedPairs).1 turnedPairs) from rfl]
      simp only [Option.bind_some]
      rw [if_pos o1, o2, if_neg (by simp), if_pos o3]
      exact hj3
    · rw [if_neg hu]
      exact hj3
  have e1 : ∀ top : Int, top = aluBits wide - 1 → wardenlaw02_AluAsks.j1 3 c wide a b (decide (x < y)) (decide (y < x)) (decide (s < t)) (decide (t < s)) top = some true := fun top htop => by
    have hbit : ∀ (z u : Int), 0 ≤ z → z < 18446744073709551616 → z % aluMod wide = u → bits .and .u64 (shr .u64 z top) 1 = if u < aluMod wide / 2 then 0 else 1 := fun z u z0 z1 hz => by
      subst htop
      have hsh : shr .u64 z ((aluBits wide : Int) - 1) = z / (aluMod wide / 2) := by
        cases wide <;> rfl
      rw [hsh]
      have q0 : 0 ≤ z / (aluMod wide / 2) := Int.ediv_nonneg z0 (by cases wide <;> decide)
      have q1 := Int.ediv_le_self (aluMod wide / 2) z0
      rw [bit_one _ q0 (by omega)]
      cases wide
      · have hz : z % 4294967296 = u := hz
        show z / 2147483648 % 2 = if u < 2147483648 then 0 else 1
        split <;> omega
      · have hz : z % 18446744073709551616 = u := hz
        show z / 9223372036854775808 % 2 = if u < 9223372036854775808 then 0 else 1
        split <;> omega
    have t0 : 0 ≤ top := by
      subst htop
      cases wide <;> decide
    simp only [wardenlaw02_AluAsks.j1]
    rw [if_pos t0, hbit a x ha.1 ha.2 hx, hbit b y hb.1 hb.2 hy]
    by_cases bx : x < aluMod wide / 2 <;> by_cases by_ : y < aluMod wide / 2
    · rw [if_pos bx] at hs
      rw [if_pos by_] at ht
      subst hs ht
      rw [if_pos bx, if_pos by_, if_pos rfl]
      simp only [bne_self_eq_false, Bool.false_eq_true, if_false]
      exact e3
    · rw [if_pos bx] at hs
      rw [if_neg by_] at ht
      have d1 : decide (s < t) = false := decide_eq_false (by omega)
      have d2 : decide (x < y) = true := decide_eq_true (by omega)
      rw [if_pos bx, if_neg by_, if_neg (by decide), d1, d2]
      exact e3
    · rw [if_neg bx] at hs
      rw [if_pos by_] at ht
      have d1 : decide (s < t) = true := decide_eq_true (by omega)
      have d2 : decide (x < y) = false := decide_eq_false (by omega)
      rw [if_neg bx, if_pos by_, if_neg (by decide), d1, d2]
      exact e3
    · rw [if_neg bx] at hs
      rw [if_neg by_] at ht
      have d1 : decide (s < t) = decide (x < y) := by
        rw [decide_eq_decide]; omega
      have d2 : decide (t < s) = decide (y < x) := by
        rw [decide_eq_decide]; omega
      rw [if_neg bx, if_neg by_, if_pos rfl, d1, d2]
      simp only [bne_self_eq_false, Bool.false_eq_true, if_false]
      exact e3
  have e0 : wardenlaw02_AluAsks.j0 4 c wide a b (decide (x < y)) (decide (y < x)) (decide (s < t)) (decide (t < s)) false = some true := by
    simp only [wardenlaw02_AluAsks.j0, Bool.false_eq_true, if_false]
    cases wide
    · exact e1 31 rfl
    · exact e1 63 rfl
  have sxy : s = t ↔ x = y := by
    constructor
    · intro h
      rw [← hs, ← ht] at h
      split at h <;> split at h <;> omega
    · rintro rfl
      rw [← hs, ← ht]
  refine ⟨4, ?_⟩
  unfold wardenlaw02_AluAsks.f
  rw [fA, fA, fA, fA, fA]
  have k1 : askOf 1 x y s t = (x == y, 0) := rfl
  have k2 : askOf 10 x y s t = (decide (x < y), 0) := rfl
  have k3 : askOf 2 x y s t = (decide (y < x), 0) := rfl
  have k4 : askOf 12 x y s t = (decide (s < t), 0) := rfl
  have k5 : askOf 6 x y s t = (decide (t < s), 0) := rfl
  rw [k1, k2, k3, k4, k5]
  simp only [Option.bind_some]
  have tri : ∀ p q : Int, p < q ∨ p = q ∨ q < p := fun p q => by omega
  rcases tri x y with h | h | h
  · have d1 : (x == y) = false := by simp; omega
    have d2 : decide (x < y) = true := decide_eq_true h
    have d3 : decide (y < x) = false := decide_eq_false (by omega)
    rcases tri s t with g | g | g
    · have d4 : decide (s < t) = true := decide_eq_true g
      have d5 : decide (t < s) = false := decide_eq_false (by omega)
      rw [d2, d3, d4, d5] at e0
      rw [d1, d2, d3, d4, d5]
      exact e0
    · exact absurd (sxy.1 g) (by omega)
    · have d4 : decide (s < t) = false := decide_eq_false (by omega)
      have d5 : decide (t < s) = true := decide_eq_true g
      rw [d2, d3, d4, d5] at e0
      rw [d1, d2, d3, d4, d5]
      exact e0
  · have g := sxy.2 h
    have d1 : (x == y) = true := by simp [h]
    have d2 : decide (x < y) = false := decide_eq_false (by omega)
    have d3 : decide (y < x) = false := decide_eq_false (by omega)
    have d4 : decide (s < t) = false := decide_eq_false (by omega)
    have d5 : decide (t < s) = false := decide_eq_false (by omega)
    rw [d2, d3, d4, d5] at e0
    rw [d1, d2, d3, d4, d5]
    exact e0
  · have d1 : (x == y) = false := by simp; omega
    have d2 : decide (x < y) = false := decide_eq_false (by omega)
    have d3 : decide (y < x) = true := decide_eq_true h
    rcases tri s t with g | g | g
    · have d4 : decide (s < t) = true := decide_eq_true g
      have d5 : decide (t < s) = false := decide_eq_false (by omega)
      rw [d2, d3, d4, d5] at e0
      rw [d1, d2, d3, d4, d5]
      exact e0
    · exact absurd (sxy.1 g) (by omega)
    · have d4 : decide (s < t) = false := decide_eq_false (by omega)
      have d5 : decide (t < s) = true := decide_eq_true g
      rw [d2, d3, d4, d5] at e0
      rw [d1, d2, d3, d4, d5]
      exact e0

end Go.Proofs.Ytdlgipoaimgbpaa.Pure
