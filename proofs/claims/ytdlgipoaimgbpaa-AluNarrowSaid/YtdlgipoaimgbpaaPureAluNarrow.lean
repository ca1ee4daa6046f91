/- AluNarrow in plain Lean: with 32 bits all hangs on the lower bits of both numbers. -/
import Derived.Test.YtdlgipoaimgbpaaHAluNarrowx1
import Derived.Test.YtdlgipoaimgbpaaAluPure
import Derived.Test.YtdlgipoaimgbpaaWf
namespace Go.Proofs.Ytdlgipoaimgbpaa.Pure
open Go.RowKit Go.Proofs.Ytdlgipoaimgbpaa.HAluNarrow Go.Proofs.YtdlgipoaimgbpaaW.PrintWords Go.Proofs.YtdlgipoaimgbpaaW.PrintLast

theorem alive_true : wardenlaw02_alive.f = some true := by decide +kernel

theorem and_low (a : Int) (h0 : 0 ≤ a) (h1 : a < 18446744073709551616) : bits .and .u64 a 4294967295 = a % 4294967296 := by
  obtain ⟨k, rfl⟩ := Int.eq_ofNat_of_zero_le h0
  have h := (bits_nat k 4294967295 (by omega) (by decide)).1
  have e : k &&& 4294967295 = k % 4294967296 := Nat.and_two_pow_sub_one_eq_mod k 32
  rw [e] at h
  exact h

theorem with_up (a u : Int) (h0 : 0 ≤ a) (h1 : a < 18446744073709551616) : bits .or .u64 (bits .and .u64 a 4294967295) (IntKind.u64.wrap (u * 4294967296)) % 4294967296 = a % 4294967296 := by
  rw [and_low a h0 h1]
  have hw : IntKind.u64.wrap (u * 4294967296) = u * 4294967296 % 18446744073709551616 := rfl
  rw [u64_or (IntKind.u64.wrap (u * 4294967296)) (a % 4294967296) 32 (by decide) (by rw [hw]; show _ % (4294967296 : Int) = 0; omega) (by rw [hw]; omega) (by rw [hw]; omega) (by omega) (by show _ < (4294967296 : Int); omega) (by rw [hw]; omega)]
  rw [hw]
  omega

theorem narrow_wide (c : Int) (a b : Int) (ha : 0 ≤ a ∧ a < 4294967296) (hb : 0 ≤ b ∧ b < 4294967296) (hc : c = 0 ∨ c = 1 ∨ c = 2 ∨ c = 4 ∨ c = 5 ∨ c = 10 ∨ c = 3 ∨ c = 9 ∨ c = 11) :
    (aluDoes c false a b).1 = (aluDoes c true a b).1 % 4294967296 := by
  have la : a % aluMod false = a ∧ a % aluMod true = a := ⟨Int.emod_eq_of_lt ha.1 ha.2, Int.emod_eq_of_lt ha.1 (by show a < (18446744073709551616 : Int); omega)⟩
  have lb : b % aluMod false = b ∧ b % aluMod true = b := ⟨Int.emod_eq_of_lt hb.1 hb.2, Int.emod_eq_of_lt hb.1 (by show b < (18446744073709551616 : Int); omega)⟩
  have mm : ∀ z : Int, z % aluMod false = z % aluMod true % 4294967296 := fun z => by
    show z % 4294967296 = z % 18446744073709551616 % 4294967296
    omega
  have nn : ∀ z : Nat, z < 2 ^ 32 → (z : Int) = z % 4294967296 := fun z hz => (Int.emod_eq_of_lt (by omega) (by omega)).symm
  have ea : lowN true a = lowN false a := by unfold lowN; rw [la.1, la.2]
  have eb : lowN true b = lowN false b := by unfold lowN; rw [lb.1, lb.2]
  rcases hc with rfl | rfl | rfl | rfl | rfl | rfl | rfl | rfl | rfl
  · rw [does_add, does_add]; exact mm _
  · rw [does_sub, does_sub]; exact mm _
  · rw [does_mul, does_mul]; exact mm _
  · rw [does_or, does_or, ea, eb]; exact nn _ (Nat.or_lt_two_pow (lowN_lt false a) (lowN_lt false b))
  · rw [does_and, does_and, ea, eb]; exact nn _ (Nat.lt_of_le_of_lt Nat.and_le_left (lowN_lt false a))
  · rw [does_xor, does_xor, ea, eb]; exact nn _ (Nat.xor_lt_two_pow (lowN_lt false a) (lowN_lt false b))
  · rw [does_div, does_div, la.1, la.2, lb.1, lb.2]
    show (if b = 0 then 0 else a / b) = (if b = 0 then 0 else a / b) % 4294967296
    split
    · rfl
    · have h1 := Int.ediv_nonneg ha.1 hb.1
      have h2 := Int.ediv_le_self b ha.1
      exact (Int.emod_eq_of_lt h1 (by omega)).symm
  · rw [does_mod, does_mod, la.1, la.2, lb.1, lb.2]
    show (if b = 0 then a else a % b) = (if b = 0 then a else a % b) % 4294967296
    split
    · exact (Int.emod_eq_of_lt ha.1 ha.2).symm
    · rename_i hz
      have h1 := Int.emod_nonneg a hz
      have h2 := Int.emod_lt_of_pos a (show 0 < b by omega)
      exact (Int.emod_eq_of_lt h1 (by omega)).symm
  · rw [does_mov, does_mov]; exact mm _

theorem AluNarrow : wardenlaw02_AluNarrow.Pure := by
  intro c a b up hc ha hb hu
  have ha := wf_u64 ha
  have hb := wf_u64 hb
  have hc := wf_u8 hc
  refine ⟨2, ?_⟩
  unfold wardenlaw02_AluNarrow.f
  have ra := bits_range .or (bits .and .u64 a 4294967295) (IntKind.u64.wrap (up * 4294967296))
  have rb := bits_range .or (bits .and .u64 b 4294967295) (IntKind.u64.wrap ((up / 4294967296) * 4294967296))
  have wa := with_up a up ha.1 ha.2
  have wb := with_up b (up / 4294967296) hb.1 hb.2
  generalize bits .or .u64 (bits .and .u64 a 4294967295) (IntKind.u64.wrap (up * 4294967296)) = a' at *
  generalize bits .or .u64 (bits .and .u64 b 4294967295) (IntKind.u64.wrap ((up / 4294967296) * 4294967296)) = b' at *
  have hd : ∀ wide x y, (0 ≤ x ∧ x < 18446744073709551616) → (0 ≤ y ∧ y < 18446744073709551616) → alu_Does.f c wide x y = some (aluDoes c wide x y) := fun wide x y hx hy => if_pos ⟨hc, hx, hy⟩
  have hk : ∀ x y, (0 ≤ x ∧ x < 18446744073709551616) → (0 ≤ y ∧ y < 18446744073709551616) → alu_Asks.f c false x y = some (aluAsks c false x y) := fun x y hx hy => if_pos ⟨hx, hy⟩
  rw [hd _ _ _ ha hb, hd _ _ _ ra rb, hk _ _ ha hb, hk _ _ ra rb, does_congr c false a' b' a b wa wb, asks_congr c false a' b' a b wa wb]
  simp only [Option.bind_some, if_true, bne_self_eq_false, Bool.false_eq_true, if_false]
  have hr := does_range c false a b
  have hz : (aluDoes c false a b).1 / 4294967296 = 0 := Int.ediv_eq_zero_of_lt hr.1 hr.2
  rw [hz]
  have h1 : ∀ q : Bool, (q = true → (0 ≤ a ∧ a < 4294967296) ∧ (0 ≤ b ∧ b < 4294967296) ∧ (c = 0 ∨ c = 1 ∨ c = 2 ∨ c = 4 ∨ c = 5 ∨ c = 10 ∨ c = 3 ∨ c = 9 ∨ c = 11)) → wardenlaw02_AluNarrow.j1 1 c a b (aluDoes c false a b).1 q = some true := fun q hq => by
    simp only [wardenlaw02_AluNarrow.j1]
    cases q
    · rw [if_neg (by decide), alive_true]
      rfl
    · obtain ⟨h1, h2, h3⟩ := hq rfl
      rw [if_pos rfl, hd _ _ _ ha hb]
      simp only [Option.bind_some]
      have hi := does_in c true a b
      rw [and_low _ hi.1 hi.2, if_pos (narrow_wide c a b h1 h2 h3), alive_true]
      rfl
  simp only [wardenlaw02_AluNarrow.j0, bne_self_eq_false, Bool.false_eq_true, if_false]
  by_cases ea : a / 4294967296 = 0
  · by_cases eb : b / 4294967296 = 0
    · have ha2 : 0 ≤ a ∧ a < 4294967296 := by omega
      have hb2 : 0 ≤ b ∧ b < 4294967296 := by omega
      rw [if_pos ea, if_pos eb]
      by_cases ez : (aluDoes c false a b).2 = 0
      · rw [if_pos ez]
        by_cases g : c = 0 ∨ c = 1 ∨ c = 2 ∨ c = 4 ∨ c = 5 ∨ c = 10 ∨ c = 3 ∨ c = 9
        · have ht := h1 true (fun _ => ⟨ha2, hb2, by omega⟩)
          rcases g with g | g | g | g | g | g | g | g <;> (subst g; simp only [Int.reduceEq, if_true, if_false]; exact ht)
        · simp (disch := omega) only [if_neg]
          exact h1 _ (fun h => ⟨ha2, hb2, by simp at h; omega⟩)
      · rw [if_neg ez]
        exact h1 false (fun h => by cases h)
    · rw [if_pos ea, if_neg eb]
      exact h1 false (fun h => by cases h)
  · rw [if_neg ea]
    exact h1 false (fun h => by cases h)

end Go.Proofs.Ytdlgipoaimgbpaa.Pure
