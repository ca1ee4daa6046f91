/- AluTells in plain Lean: what alu.Does, alu.Asks, alu.Turned and alu.Other answer is what the reference answers. -/
import Derived.Test.YtdlgipoaimgbpaaHAluTellsx2
import Derived.Test.YtdlgipoaimgbpaaAluPure
import Derived.Test.YtdlgipoaimgbpaaWf
namespace Go.Proofs.Ytdlgipoaimgbpaa.Pure
open Go.RowKit Go.Proofs.Ytdlgipoaimgbpaa.HAluTells Go.Proofs.YtdlgipoaimgbpaaW.PrintWords Go.Proofs.YtdlgipoaimgbpaaW.PrintLast

theorem alive_true : wardenlaw02_alive.f = some true := by decide +kernel

theorem ref_turned (c : Int) : wardenref02_Turned.f c = some (pairOf c turnedPairs) := by
  unfold wardenref02_Turned.f turnedPairs
  simp only [pairOf]
  by_cases h : c = 1 ∨ c = 2 ∨ c = 3 ∨ c = 4 ∨ c = 5 ∨ c = 6 ∨ c = 7 ∨ c = 10 ∨ c = 11 ∨ c = 12 ∨ c = 13
  · rcases h with rfl | rfl | rfl | rfl | rfl | rfl | rfl | rfl | rfl | rfl | rfl <;> rfl
  · simp (disch := omega) only [if_neg]

theorem ref_other (c : Int) : wardenref02_Other.f c = some (pairOf c otherPairs) := by
  unfold wardenref02_Other.f otherPairs
  simp only [pairOf]
  by_cases h : c = 1 ∨ c = 2 ∨ c = 3 ∨ c = 4 ∨ c = 5 ∨ c = 6 ∨ c = 7 ∨ c = 10 ∨ c = 11 ∨ c = 12 ∨ c = 13
  · rcases h with rfl | rfl | rfl | rfl | rfl | rfl | rfl | rfl | rfl | rfl | rfl <;> rfl
  · simp (disch := omega) only [if_neg]

theorem ref_size (wide : Bool) : wardenref02_size.f wide = some (aluSize wide) := by cases wide <;> rfl

theorem ref_shift (y : Int) (wide : Bool) (h : 0 ≤ y) : wardenref02_shift.f y (aluSize wide) = some (y % (8 * aluSize wide)) := by
  have e : IntKind.u64.wrap (wrap64 (8 * aluSize wide)) = 8 * aluSize wide ∧ 8 * aluSize wide ≠ 0 := by cases wide <;> decide +kernel
  unfold wardenref02_shift.f
  rw [e.1, if_neg e.2, Int.tmod_eq_emod_of_nonneg h]

theorem ref_low {z : Int} (n : Int) (h0 : 0 ≤ z) (h1 : z < 18446744073709551616) : wardenref01_Low.f z n = some (wordLow z n) := if_pos ⟨h0, h1⟩
theorem ref_sign {z : Int} (n : Int) (h0 : 0 ≤ z) (h1 : z < 18446744073709551616) : wardenref01_Sign.f z n = some (wordSign z n) := if_pos ⟨h0, h1⟩

theorem ref_asks (c : Int) (wide : Bool) (a b : Int) (a0 : 0 ≤ a) (a1 : a < 18446744073709551616) (b0 : 0 ≤ b) (b1 : b < 18446744073709551616) : wardenref02_Asks.f c wide a b = some (aluAsks c wide a b) := by
  unfold wardenref02_Asks.f aluAsks
  have ha := low_range a (aluSize wide) a0
  have hb := low_range b (aluSize wide) b0
  rw [ref_size]
  simp only [Option.bind_some]
  rw [ref_low _ a0 a1, ref_low _ b0 b1]
  simp only [Option.bind_some]
  rw [ref_sign _ ha.1 (by omega), ref_sign _ hb.1 (by omega)]
  simp only [Option.bind_some]
  unfold askOf
  by_cases h : c = 0 ∨ c = 1 ∨ c = 2 ∨ c = 3 ∨ c = 4 ∨ c = 5 ∨ c = 6 ∨ c = 7 ∨ c = 10 ∨ c = 11 ∨ c = 12 ∨ c = 13
  · rcases h with rfl | rfl | rfl | rfl | rfl | rfl | rfl | rfl | rfl | rfl | rfl | rfl <;> rfl
  · simp (disch := omega) only [if_neg]

theorem shift_lt (y : Int) (wide : Bool) : 0 ≤ y % (8 * aluSize wide) ∧ min (y % (8 * aluSize wide)).toNat 64 = (y % (8 * aluSize wide)).toNat := by
  rw [aluBits_size]
  have : (0 : Int) < aluBits wide ∧ (aluBits wide : Int) ≤ 64 := by cases wide <;> decide +kernel
  have h1 := Int.emod_nonneg y (show (aluBits wide : Int) ≠ 0 by omega)
  have h2 := Int.emod_lt_of_pos y this.1
  exact ⟨h1, by omega⟩

theorem wrap_range (z : Int) : 0 ≤ IntKind.u64.wrap z ∧ IntKind.u64.wrap z < 18446744073709551616 := by
  show 0 ≤ z % 18446744073709551616 ∧ z % 18446744073709551616 < 18446744073709551616
  omega

theorem ref_does (c : Int) (wide : Bool) (a b : Int) (a0 : 0 ≤ a) (a1 : a < 18446744073709551616) (b0 : 0 ≤ b) (b1 : b < 18446744073709551616) : wardenref02_Does.f c wide a b = some (aluDoes c wide a b) := by
  unfold wardenref02_Does.f aluDoes
  have ha := low_range a (aluSize wide) a0
  have hb := low_range b (aluSize wide) b0
  rw [ref_size]
  simp only [Option.bind_some]
  rw [ref_low _ a0 a1, ref_low _ b0 b1]
  simp only [Option.bind_some]
  obtain ⟨x, hx⟩ : ∃ x, wordLow a (aluSize wide) = x := ⟨_, rfl⟩
  obtain ⟨y, hy⟩ : ∃ x, wordLow b (aluSize wide) = x := ⟨_, rfl⟩
  rw [hx] at ha
  rw [hy] at hb
  rw [hx, hy]
  obtain ⟨x0, x1⟩ := ha
  obtain ⟨y0, y1⟩ := hb
  have hs := shift_lt y wide
  have hd : 0 ≤ x / 2 ^ (y % (8 * aluSize wide)).toNat ∧ x / 2 ^ (y % (8 * aluSize wide)).toNat < 18446744073709551616 := by
    have h1 : 0 ≤ x / 2 ^ (y % (8 * aluSize wide)).toNat := Int.ediv_nonneg x0 (Int.pow_nonneg (by omega))
    have h2 := Int.ediv_le_self (2 ^ (y % (8 * aluSize wide)).toNat) x0
    omega
  by_cases h : c = 0 ∨ c = 1 ∨ c = 2 ∨ c = 3 ∨ c = 4 ∨ c = 5 ∨ c = 6 ∨ c = 7 ∨ c = 8 ∨ c = 9 ∨ c = 10 ∨ c = 11 ∨ c = 12
  · have hsm : ∀ z, shl .u64 z (y % (8 * aluSize wide)) = IntKind.u64.wrap (z * 2 ^ (y % (8 * aluSize wide)).toNat) := fun z => by
      show IntKind.u64.wrap (z * 2 ^ min (y % (8 * aluSize wide)).toNat 64) = _
      rw [hs.2]
    have hsr : ∀ z, shr .u64 z (y % (8 * aluSize wide)) = z / 2 ^ (y % (8 * aluSize wide)).toNat := fun z => by
      show z / 2 ^ min (y % (8 * aluSize wide)).toNat 64 = _
      rw [hs.2]
    have hsi : ∀ z, shr .i64 z (y % (8 * aluSize wide)) = z / 2 ^ (y % (8 * aluSize wide)).toNat := fun z => by
      show z / 2 ^ min (y % (8 * aluSize wide)).toNat 64 = _
      rw [hs.2]
    rcases h with rfl | rfl | rfl | rfl | rfl | rfl | rfl | rfl | rfl | rfl | rfl | rfl | rfl
    · have e : aluOp 0 (aluSize wide) x y = some (IntKind.u64.wrap (x + y)) := rfl
      rw [e]
      simp only [Int.reduceEq, if_true, if_false]
      rw [ref_low _ (wrap_range _).1 (wrap_range _).2]; rfl
    · have e : aluOp 1 (aluSize wide) x y = some (IntKind.u64.wrap (x - y)) := rfl
      rw [e]
      simp only [Int.reduceEq, if_true, if_false]
      rw [ref_low _ (wrap_range _).1 (wrap_range _).2]; rfl
    · have e : aluOp 2 (aluSize wide) x y = some (IntKind.u64.wrap (x * y)) := rfl
      rw [e]
      simp only [Int.reduceEq, if_true, if_false]
      rw [ref_low _ (wrap_range _).1 (wrap_range _).2]; rfl
    · have e : aluOp 3 (aluSize wide) x y = some (if y = 0 then 0 else x / y) := rfl
      rw [e]
      simp only [Int.reduceEq, if_true, if_false]
      by_cases hz : y = 0
      · rw [if_neg (by omega), if_pos hz, ref_low _ (by omega) (by omega)]; rfl
      · have h1 := Int.ediv_nonneg x0 y0
        have h2 := Int.ediv_le_self y x0
        rw [if_pos (by omega), if_neg hz, if_neg hz, Int.tdiv_eq_ediv_of_nonneg x0, wrap_u64 h1 (by omega), ref_low _ h1 (by omega)]; rfl
    · have e : aluOp 4 (aluSize wide) x y = some (bits .or .u64 x y) := rfl
      rw [e]
      simp only [Int.reduceEq, if_true, if_false]
      rw [ref_low _ (bits_range _ _ _).1 (bits_range _ _ _).2]; rfl
    · have e : aluOp 5 (aluSize wide) x y = some (bits .and .u64 x y) := rfl
      rw [e]
      simp only [Int.reduceEq, if_true, if_false]
      rw [ref_low _ (bits_range _ _ _).1 (bits_range _ _ _).2]; rfl
    · have e : aluOp 6 (aluSize wide) x y = some (IntKind.u64.wrap (x * 2 ^ (y % (8 * aluSize wide)).toNat)) := rfl
      rw [e]
      simp only [Int.reduceEq, if_true, if_false]
      rw [ref_shift y wide y0]
      simp only [Option.bind_some]
      rw [if_pos hs.1, hsm, ref_low _ (wrap_range _).1 (wrap_range _).2]; rfl
    · have e : aluOp 7 (aluSize wide) x y = some (x / 2 ^ (y % (8 * aluSize wide)).toNat) := rfl
      rw [e]
      simp only [Int.reduceEq, if_true, if_false]
      rw [ref_shift y wide y0]
      simp only [Option.bind_some]
      rw [if_pos hs.1, hsr, ref_low _ hd.1 hd.2]; rfl
    · have e : aluOp 8 (aluSize wide) x y = some (IntKind.u64.wrap (-x)) := rfl
      rw [e]
      simp only [Int.reduceEq, if_true, if_false]
      rw [ref_low _ (wrap_range _).1 (wrap_range _).2]; rfl
    · have e : aluOp 9 (aluSize wide) x y = some (if y = 0 then x else x % y) := rfl
      rw [e]
      simp only [Int.reduceEq, if_true, if_false]
      by_cases hz : y = 0
      · rw [if_neg (by omega), if_pos hz, ref_low _ (by omega) (by omega)]; rfl
      · have h1 := Int.emod_nonneg x hz
        have h2 := Int.emod_lt_of_pos x (show 0 < y by omega)
        rw [if_pos (by omega), if_neg hz, if_neg hz, Int.tmod_eq_emod_of_nonneg x0, ref_low _ h1 (by omega)]; rfl
    · have e : aluOp 10 (aluSize wide) x y = some (bits .xor .u64 x y) := rfl
      rw [e]
      simp only [Int.reduceEq, if_true, if_false]
      rw [ref_low _ (bits_range _ _ _).1 (bits_range _ _ _).2]; rfl
    · have e : aluOp 11 (aluSize wide) x y = some (y) := rfl
      rw [e]
      simp only [Int.reduceEq, if_true, if_false]
      rw [ref_low _ y0 (by omega)]; rfl
    · have e : aluOp 12 (aluSize wide) x y = some (IntKind.u64.wrap (wordSign x (aluSize wide) / 2 ^ (y % (8 * aluSize wide)).toNat)) := rfl
      rw [e]
      simp only [Int.reduceEq, if_true, if_false]
      rw [ref_sign _ x0 (by omega), ref_shift y wide y0]
      simp only [Option.bind_some]
      rw [if_pos hs.1, hsi, ref_low _ (wrap_range _).1 (wrap_range _).2]; rfl
  · have e : aluOp c (aluSize wide) x y = none := by
      unfold aluOp
      simp (disch := omega) only [if_neg]
    rw [e]
    simp (disch := omega) only [if_neg]

theorem AluTells : wardenlaw02_AluTells.Pure := by
  intro c wide a b hc ha hb
  have ha := wf_u64 ha
  have hb := wf_u64 hb
  have hc := wf_u8 hc
  unfold wardenlaw02_AluTells.f
  have h1 : alu_Does.f c wide a b = some (aluDoes c wide a b) := if_pos ⟨hc, ha, hb⟩
  have h2 : alu_Asks.f c wide a b = some (aluAsks c wide a b) := if_pos ⟨ha, hb⟩
  have h3 : alu_Turned.f c = some (pairOf c turnedPairs) := rfl
  have h4 : alu_Other.f c = some (pairOf c otherPairs) := rfl
  rw [h1, h2, h3, h4, ref_does c wide a b ha.1 ha.2 hb.1 hb.2, ref_asks c wide a b ha.1 ha.2 hb.1 hb.2, ref_turned, ref_other, alive_true]
  simp

end Go.Proofs.Ytdlgipoaimgbpaa.Pure
