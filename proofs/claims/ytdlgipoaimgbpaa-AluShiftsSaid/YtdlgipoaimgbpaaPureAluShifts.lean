/- AluShifts in plain Lean: shifts are products with, and quotients by, powers of two. -/
import Derived.Test.YtdlgipoaimgbpaaHAluShiftsx1
import Derived.Test.YtdlgipoaimgbpaaAluPure
import Derived.Test.YtdlgipoaimgbpaaWf
namespace Go.Proofs.Ytdlgipoaimgbpaa.Pure
open Go.RowKit Go.Proofs.Ytdlgipoaimgbpaa.HAluShifts Go.Proofs.YtdlgipoaimgbpaaW.PrintWords Go.Proofs.YtdlgipoaimgbpaaW.PrintLast

theorem alive_true : wardenlaw02_alive.f = some true := by decide +kernel

theorem does_f (c : Int) (wide : Bool) (a b : Int) (hc : 0 ≤ c ∧ c < 256) (ha : 0 ≤ a ∧ a < 18446744073709551616) (hb : 0 ≤ b ∧ b < 18446744073709551616) : wardenlaw02_does.f c wide a b = some (aluDoes c wide a b).1 := by
  unfold wardenlaw02_does.f
  rw [show alu_Does.f c wide a b = some (aluDoes c wide a b) from if_pos ⟨hc, ha, hb⟩]
  rfl

theorem neg_div (z d : Int) (h : 0 < d) : (-1 - z) / d = -1 - z / d := by
  have h1 := Int.emod_add_mul_ediv z d
  have h2 := Int.emod_nonneg z (show d ≠ 0 by omega)
  have h3 := Int.emod_lt_of_pos z h
  have e1 : (-1 - z / d) * d = -d - d * (z / d) := by rw [Int.sub_mul, Int.mul_comm (z / d) d]; omega
  have e2 : (-1 - z / d + 1) * d = - (d * (z / d)) := by
    rw [show -1 - z / d + 1 = -(z / d) by omega, Int.neg_mul, Int.mul_comm]
  refine Int.ediv_eq_iff_of_pos h |>.2 ⟨?_, ?_⟩ <;> omega

theorem AluShifts : wardenlaw02_AluShifts.Pure := by
  intro wide a n ha hn
  have ha := wf_u64 ha
  have hn := wf_u16 hn
  have hp := aluMod_pos wide
  have hle := aluMod_le wide
  have hge := aluMod_ge wide
  have hbp : (0 : Int) < aluBits wide ∧ (aluBits wide : Int) ≤ 64 := by cases wide <;> decide
  obtain ⟨s, hs⟩ : ∃ s : Nat, (n % aluBits wide).toNat = s := ⟨_, rfl⟩
  have hs0 := Int.emod_nonneg n (show (aluBits wide : Int) ≠ 0 by omega)
  have hs1 := Int.emod_lt_of_pos n hbp.1
  have hsn : n % (aluBits wide : Int) = (s : Int) := by omega
  have hsl : s < aluBits wide := by omega
  have hnm : n % aluMod wide = n := Int.emod_eq_of_lt hn.1 (by omega)
  have hw : IntKind.u64.wrap n = n := wrap_u64 hn.1 (by omega)
  have hpow : (1 : Int) ≤ 2 ^ s := by
    have := Nat.one_le_two_pow (n := s)
    exact_mod_cast this
  have hpl : (2 : Int) ^ s < aluMod wide := by
    rw [aluMod_eq]
    have := Nat.pow_lt_pow_right (a := 2) (by decide) hsl
    exact_mod_cast this
  have h1 : aluDoes 6 true 1 s = (2 ^ s, 0) := by
    rw [does_lsh]
    have e : ((s : Int) % aluMod true % (aluBits true : Int)).toNat = s := by
      show ((s : Int) % 18446744073709551616 % 64).toNat = s
      omega
    have e2 : (1 * 2 ^ s : Int) % aluMod true = 2 ^ s := by
      rw [Int.one_mul]
      exact Int.emod_eq_of_lt (by omega) (by show _ < (18446744073709551616 : Int); omega)
    rw [e, e2]
  have h2 : aluDoes 6 wide a n = ((a * 2 ^ s) % aluMod wide, 0) := by rw [does_lsh, hnm, hs]
  have h3 : aluDoes 2 wide a (2 ^ s) = ((a * 2 ^ s) % aluMod wide, 0) := does_mul _ _ _
  have hpm : (2 ^ s : Int) % aluMod wide = 2 ^ s := Int.emod_eq_of_lt (by omega) hpl
  have h4 : ∀ z, aluDoes 7 wide z n = (z % aluMod wide / 2 ^ s, 0) := fun z => by rw [does_rsh, hnm, hs]
  have h5 : aluDoes 3 wide a (2 ^ s) = (a % aluMod wide / 2 ^ s, 0) := by rw [does_div, hpm, if_neg (by omega)]
  have h8 : aluDoes 11 wide 0 a = (a % aluMod wide, 0) := does_mov _ _ _
  have hones : lowN wide 18446744073709551615 = 2 ^ aluBits wide - 1 := by
    cases wide <;> rfl
  have hxor : ∀ z, aluDoes 10 wide z 18446744073709551615 = (aluMod wide - 1 - z % aluMod wide, 0) := fun z => by
    rw [does_xor, hones, xor_ones _ _ (lowN_lt wide z)]
    have e := lowN_cast wide z
    have l := lowN_lt wide z
    have q := pow_bits wide
    congr 1
    omega
  obtain ⟨x, hx⟩ : ∃ x, a % aluMod wide = x := ⟨_, rfl⟩
  have hx0 : 0 ≤ x := by rw [← hx]; exact Int.emod_nonneg a (by omega)
  have hx1 : x < aluMod wide := by rw [← hx]; exact Int.emod_lt_of_pos a hp
  have h9 : aluDoes 12 wide a n = ((if x < aluMod wide / 2 then x else x - aluMod wide) / 2 ^ s % aluMod wide, 0) := by rw [does_arsh, hnm, hs, hx]
  have hd0 : ∀ z : Int, 0 ≤ z → 0 ≤ z / 2 ^ s ∧ z / 2 ^ s ≤ z := fun z hz => ⟨Int.ediv_nonneg hz (by omega), Int.ediv_le_self _ hz⟩
  have htop : ∀ t : Int, t = aluBits wide - 1 → 0 ≤ t → (shr .u64 x t = 0 ↔ x < aluMod wide / 2) := fun t ht ht0 => by
    subst ht
    show x / 2 ^ min ((aluBits wide : Int) - 1).toNat 64 = 0 ↔ _
    have e : ∀ m : Int, 0 < m → (x / m = 0 ↔ x < m) := fun m hm => by
      constructor
      · intro h
        exact Decidable.byContradiction fun hc => by
          have := Int.le_ediv_of_mul_le hm (show 1 * m ≤ x by omega)
          omega
      · intro h
        exact Int.ediv_eq_zero_of_lt hx0 h
    cases wide
    · exact e 2147483648 (by decide)
    · exact e 9223372036854775808 (by decide)
  have key : wardenlaw02_AluShifts.j0 2 wide a n (aluBits wide) = some true := by
    simp only [wardenlaw02_AluShifts.j0]
    rw [if_neg (by omega), hw, Int.tmod_eq_emod_of_nonneg hn.1, hsn, does_f _ _ _ _ (by decide) (by decide) (by omega)]
    simp only [Option.bind_some]
    rw [h1, does_f _ _ _ _ (by decide) ha (by omega), h2]
    simp only [Option.bind_some]
    rw [does_f _ _ _ _ (by decide) ha (by omega), h3]
    simp only [Option.bind_some, if_true]
    rw [does_f _ _ _ _ (by decide) ha (by omega), h4, does_f _ _ _ _ (by decide) ha (by omega), h5]
    simp only [Option.bind_some, bne_self_eq_false]
    simp only [wardenlaw02_AluShifts.j1]
    rw [if_neg (by decide), hw, does_f _ _ _ _ (by decide) ha (by decide), hxor, does_f _ _ _ _ (by decide) (by decide) ha, h8, does_f _ _ _ _ (by decide) ha (by omega), h9, hx]
    simp only [Option.bind_some]
    have hwb : IntKind.u64.wrap ((aluBits wide : Int) - 1) = (aluBits wide : Int) - 1 := wrap_u64 (by omega) (by omega)
    rw [hwb, if_pos (by omega)]
    by_cases hlt : x < aluMod wide / 2
    · rw [if_pos ((htop _ rfl (by omega)).2 hlt), if_pos hlt, does_f _ _ _ _ (by decide) ha (by omega), h4, hx, alive_true]
      have := hd0 x hx0
      rw [Int.emod_eq_of_lt this.1 (by omega)]
      simp
    · rw [if_neg (fun h => hlt ((htop _ rfl (by omega)).1 h)), if_neg hlt, does_f _ _ _ _ (by decide) (by omega) (by omega), h4]
      have hz : (aluMod wide - 1 - x) % aluMod wide = aluMod wide - 1 - x := Int.emod_eq_of_lt (by omega) (by omega)
      have hq := hd0 (aluMod wide - 1 - x) (by omega)
      rw [hz]
      simp only [Option.bind_some]
      rw [does_f _ _ _ _ (by decide) (by omega) (by decide), hxor, alive_true, Int.emod_eq_of_lt hq.1 (by omega)]
      have e : (x - aluMod wide) / 2 ^ s % aluMod wide = aluMod wide - 1 - (aluMod wide - 1 - x) / 2 ^ s := by
        rw [show x - aluMod wide = -1 - (aluMod wide - 1 - x) by omega, neg_div _ _ (by omega)]
        rw [← Int.add_emod_right, Int.emod_eq_of_lt (by omega) (by omega)]
        omega
      rw [e]
      simp
  refine ⟨2, ?_⟩
  unfold wardenlaw02_AluShifts.f
  cases wide
  · exact key
  · exact key

end Go.Proofs.Ytdlgipoaimgbpaa.Pure
