import Derived.Test.YtdlgipoaimgbpaaAluPure
import Derived.Test.YtdlgipoaimgbpaaHAluShiftsx1
import Derived.Test.YtdlgipoaimgbpaaWf
/-! The law AluRules, walked. -/
namespace Go.Proofs.Ytdlgipoaimgbpaa
open Go.RowKit Go.Maps
set_option maxHeartbeats 4000000
set_option maxRecDepth 100000

theorem alu_law_does (c : Int) (hc : 0 ≤ c ∧ c < 256) (wide : Bool) (a b r : Int) (a0 : 0 ≤ a ∧ a < 18446744073709551616) (b0 : 0 ≤ b ∧ b < 18446744073709551616) (h : aluDoes c wide a b = (r, 0)) (w : World) :
    Calls Try.prog 11 #[.int .u8 c, .bool wide, .int .u64 a, .int .u64 b] w fun e w' => e = .returned (.int .u64 r) ∧ Below w.heap.size w w' := by
  have e : HAluShifts.wardenlaw02_does.f c wide a b = some r := by
    unfold HAluShifts.wardenlaw02_does.f
    rw [show HAluShifts.alu_Does.f c wide a b = some (aluDoes c wide a b) from if_pos ⟨hc, a0, b0⟩, h]
    rfl
  exact HAluShifts.wardenlaw02_does.calls c wide a b r w e

theorem alu_law_alive (w : World) : Calls Try.prog 12 #[] w fun e w' => e = .returned (.bool true) ∧ Below w.heap.size w w' :=
  HAluShifts.wardenlaw02_alive.calls true w (by decide +kernel)

structure RulesOk (wide : Bool) (a b c add mul ad3 bc mu3 bcm own sub neg dist acm quot rest qb bm there an orr both shd there2 : Int) : Prop where
  e0 : aluDoes 0 wide a b = (add, 0)
  e1 : aluDoes 2 wide a b = (mul, 0)
  e2 : aluDoes 0 wide b a = (add, 0)
  e3 : aluDoes 2 wide b a = (mul, 0)
  e4 : aluDoes 0 wide add c = (ad3, 0)
  e5 : aluDoes 0 wide b c = (bc, 0)
  e6 : aluDoes 0 wide a bc = (ad3, 0)
  e7 : aluDoes 2 wide mul c = (mu3, 0)
  e8 : aluDoes 2 wide b c = (bcm, 0)
  e9 : aluDoes 2 wide a bcm = (mu3, 0)
  e10 : aluDoes 11 wide 0 a = (own, 0)
  e11 : aluDoes 1 wide a b = (sub, 0)
  e12 : aluDoes 0 wide sub b = (own, 0)
  e13 : aluDoes 8 wide a 0 = (neg, 0)
  e14 : aluDoes 0 wide a neg = (0, 0)
  e15 : aluDoes 2 wide a bc = (dist, 0)
  e16 : aluDoes 2 wide a c = (acm, 0)
  e17 : aluDoes 0 wide mul acm = (dist, 0)
  e18 : aluDoes 3 wide a b = (quot, 0)
  e19 : aluDoes 9 wide a b = (rest, 0)
  e20 : aluDoes 2 wide quot b = (qb, 0)
  e21 : aluDoes 0 wide qb rest = (own, 0)
  e22 : aluDoes 11 wide 0 b = (bm, 0)
  e23 : aluDoes 6 wide a c = (there, 0)
  e24 : aluDoes 5 wide a b = (an, 0)
  e25 : aluDoes 4 wide a b = (orr, 0)
  e26 : aluDoes 10 wide an orr = (both, 0)
  e27 : aluDoes 7 wide there c = (shd, 0)
  e28 : aluDoes 6 wide own c = (there2, 0)
  e29 : aluDoes 7 wide there2 c = (shd, 0)
  e30 : aluDoes 10 wide a b = (both, 0)
  e31 : aluDoes 0 wide an orr = (add, 0)
  below : bm = 0 ∨ rest < bm

theorem rules_ok (wide : Bool) (a b c : Int) : ∃ add mul ad3 bc mu3 bcm own sub neg dist acm quot rest qb bm there an orr both shd there2, RulesOk wide a b c add mul ad3 bc mu3 bcm own sub neg dist acm quot rest qb bm there an orr both shd there2 := by
  have hp := aluMod_pos wide
  have fst : ∀ c x y, (aluDoes c wide x y).2 = 0 → aluDoes c wide x y = ((aluDoes c wide x y).1, 0) := fun c x y h => by rw [← h]
  have hx0 := Int.emod_nonneg a (show aluMod wide ≠ 0 by omega)
  have hx1 := Int.emod_lt_of_pos a hp
  have hy0 := Int.emod_nonneg b (show aluMod wide ≠ 0 by omega)
  have hy1 := Int.emod_lt_of_pos b hp
  have lor : lowN wide a ||| lowN wide b < 2 ^ aluBits wide := Nat.or_lt_two_pow (lowN_lt wide a) (lowN_lt wide b)
  have lan : lowN wide a &&& lowN wide b < 2 ^ aluBits wide := Nat.lt_of_le_of_lt Nat.and_le_left (lowN_lt wide a)
  have lown : ∀ z : Nat, z < 2 ^ aluBits wide → lowN wide (z : Int) = z := fun z hz => by
    unfold lowN
    rw [Int.emod_eq_of_lt (by omega) (by rw [← pow_bits]; exact_mod_cast hz)]
    rfl
  refine ⟨(a + b) % aluMod wide, (a * b) % aluMod wide, (a + b + c) % aluMod wide, (b + c) % aluMod wide, (a * b * c) % aluMod wide, (b * c) % aluMod wide, a % aluMod wide, (a - b) % aluMod wide, (-a) % aluMod wide,
    (a * (b + c)) % aluMod wide, (a * c) % aluMod wide, if b % aluMod wide = 0 then 0 else a % aluMod wide / (b % aluMod wide), if b % aluMod wide = 0 then a % aluMod wide else a % aluMod wide % (b % aluMod wide),
    ((if b % aluMod wide = 0 then 0 else a % aluMod wide / (b % aluMod wide)) * b) % aluMod wide, b % aluMod wide, (a * 2 ^ (c % aluMod wide % aluBits wide).toNat) % aluMod wide,
    ((lowN wide a &&& lowN wide b : Nat) : Int), ((lowN wide a ||| lowN wide b : Nat) : Int), ((lowN wide a ^^^ lowN wide b : Nat) : Int), (a * 2 ^ (c % aluMod wide % aluBits wide).toNat) % aluMod wide / 2 ^ (c % aluMod wide % aluBits wide).toNat,
    (a * 2 ^ (c % aluMod wide % aluBits wide).toNat) % aluMod wide, ?_⟩
  constructor
  · rw [does_add]
  · rw [does_mul]
  · rw [does_add, Int.add_comm]
  · rw [does_mul, Int.mul_comm]
  · rw [does_add, Int.emod_add_emod]
  · rw [does_add]
  · rw [does_add, Int.add_emod_emod, Int.add_assoc]
  · rw [does_mul, Int.mul_emod, Int.emod_emod, ← Int.mul_emod]
  · rw [does_mul]
  · rw [does_mul, Int.mul_emod, Int.emod_emod, ← Int.mul_emod, Int.mul_assoc]
  · rw [does_mov]
  · rw [does_sub]
  · rw [does_add, Int.emod_add_emod, Int.sub_add_cancel]
  · rw [does_neg]
  · rw [does_add, Int.add_emod_emod, Int.add_right_neg, Int.zero_emod]
  · rw [does_mul, Int.mul_emod, Int.emod_emod, ← Int.mul_emod]
  · rw [does_mul]
  · rw [does_add, ← Int.add_emod, ← Int.mul_add]
  · rw [does_div]
  · rw [does_mod]
  · rw [does_mul]
  · rw [does_add, Int.emod_add_emod]
    split
    · rw [Int.zero_mul, Int.zero_add, Int.emod_emod]
    · rename_i hz
      rw [Int.add_emod, Int.mul_emod _ b, ← Int.emod_emod (b) (aluMod wide), ← Int.mul_emod, Int.emod_emod, ← Int.add_emod, Int.mul_comm, Int.mul_ediv_add_emod, Int.emod_emod]
  · rw [does_mov]
  · rw [does_lsh]
  · rw [does_and]
  · rw [does_or]
  · rw [does_xor, lown _ lan, lown _ lor, and_xor_or]
  · rw [does_rsh, Int.emod_emod]
  · rw [does_lsh, Int.mul_emod, Int.emod_emod, ← Int.mul_emod]
  · rw [does_rsh, Int.emod_emod]
  · rw [does_xor]
  · rw [does_add]
    have e := and_add_or (lowN wide a) (lowN wide b)
    have e2 : (((lowN wide a &&& lowN wide b : Nat) : Int) + ((lowN wide a ||| lowN wide b : Nat) : Int)) = a % aluMod wide + b % aluMod wide := by
      rw [← lowN_cast, ← lowN_cast]
      exact_mod_cast e
    rw [e2, ← Int.add_emod]
  · by_cases hz : b % aluMod wide = 0
    · exact .inl hz
    · right
      rw [if_neg hz]
      exact Int.emod_lt_of_pos _ (by omega)

theorem alu_rules_walk (w : World) (wide : Bool) (a : Int) (wa : (Lit.int .u64 a).wf = true) (b : Int) (wb : (Lit.int .u64 b).wf = true) (c : Int) (wc : (Lit.int .u64 c).wf = true) :
    Calls Try.prog 3 #[.bool wide, .int .u64 a, .int .u64 b, .int .u64 c] w fun e w' => e = .returned (.bool true) ∧ Below w.heap.size w w' := by
  have ra := wf_u64 wa
  have rb := wf_u64 wb
  have rc := wf_u64 wc
  clear wa wb wc
  obtain ⟨add, mul, ad3, bc, mu3, bcm, own, sub, neg, dist, acm, quot, rest, qb, bm, there, an, orr, both, shd, there2, ok⟩ := rules_ok wide a b c
  have rg : ∀ c x y r, aluDoes c wide x y = (r, 0) → 0 ≤ r ∧ r < 18446744073709551616 := fun c x y r h => by
    have := does_in c wide x y
    rw [h] at this
    exact this
  have r_add := rg _ _ _ _ ok.e0
  have r_mul := rg _ _ _ _ ok.e1
  have r_ad3 := rg _ _ _ _ ok.e4
  have r_bc := rg _ _ _ _ ok.e5
  have r_mu3 := rg _ _ _ _ ok.e7
  have r_bcm := rg _ _ _ _ ok.e8
  have r_own := rg _ _ _ _ ok.e10
  have r_sub := rg _ _ _ _ ok.e11
  have r_neg := rg _ _ _ _ ok.e13
  have r_dist := rg _ _ _ _ ok.e15
  have r_acm := rg _ _ _ _ ok.e16
  have r_quot := rg _ _ _ _ ok.e18
  have r_rest := rg _ _ _ _ ok.e19
  have r_qb := rg _ _ _ _ ok.e20
  have r_bm := rg _ _ _ _ ok.e22
  have r_there := rg _ _ _ _ ok.e23
  have r_an := rg _ _ _ _ ok.e24
  have r_orr := rg _ _ _ _ ok.e25
  have r_both := rg _ _ _ _ ok.e26
  have r_shd := rg _ _ _ _ ok.e27
  have r_there2 := rg _ _ _ _ ok.e28
  have C0 := hide (fun w => alu_law_does 0 (by decide) wide a b add ra rb ok.e0 w)
  have C1 := hide (fun w => alu_law_does 2 (by decide) wide a b mul ra rb ok.e1 w)
  have C2 := hide (fun w => alu_law_does 0 (by decide) wide b a add rb ra ok.e2 w)
  have C3 := hide (fun w => alu_law_does 2 (by decide) wide b a mul rb ra ok.e3 w)
  have C4 := hide (fun w => alu_law_does 0 (by decide) wide add c ad3 r_add rc ok.e4 w)
  have C5 := hide (fun w => alu_law_does 0 (by decide) wide b c bc rb rc ok.e5 w)
  have C6 := hide (fun w => alu_law_does 0 (by decide) wide a bc ad3 ra r_bc ok.e6 w)
  have C7 := hide (fun w => alu_law_does 2 (by decide) wide mul c mu3 r_mul rc ok.e7 w)
  have C8 := hide (fun w => alu_law_does 2 (by decide) wide b c bcm rb rc ok.e8 w)
  have C9 := hide (fun w => alu_law_does 2 (by decide) wide a bcm mu3 ra r_bcm ok.e9 w)
  have C10 := hide (fun w => alu_law_does 11 (by decide) wide 0 a own (by decide) ra ok.e10 w)
  have C11 := hide (fun w => alu_law_does 1 (by decide) wide a b sub ra rb ok.e11 w)
  have C12 := hide (fun w => alu_law_does 0 (by decide) wide sub b own r_sub rb ok.e12 w)
  have C13 := hide (fun w => alu_law_does 8 (by decide) wide a 0 neg ra (by decide) ok.e13 w)
  have C14 := hide (fun w => alu_law_does 0 (by decide) wide a neg 0 ra r_neg ok.e14 w)
  have C15 := hide (fun w => alu_law_does 2 (by decide) wide a bc dist ra r_bc ok.e15 w)
  have C16 := hide (fun w => alu_law_does 2 (by decide) wide a c acm ra rc ok.e16 w)
  have C17 := hide (fun w => alu_law_does 0 (by decide) wide mul acm dist r_mul r_acm ok.e17 w)
  have C18 := hide (fun w => alu_law_does 3 (by decide) wide a b quot ra rb ok.e18 w)
  have C19 := hide (fun w => alu_law_does 9 (by decide) wide a b rest ra rb ok.e19 w)
  have C20 := hide (fun w => alu_law_does 2 (by decide) wide quot b qb r_quot rb ok.e20 w)
  have C21 := hide (fun w => alu_law_does 0 (by decide) wide qb rest own r_qb r_rest ok.e21 w)
  have C22 := hide (fun w => alu_law_does 11 (by decide) wide 0 b bm (by decide) rb ok.e22 w)
  have C23 := hide (fun w => alu_law_does 6 (by decide) wide a c there ra rc ok.e23 w)
  have C24 := hide (fun w => alu_law_does 5 (by decide) wide a b an ra rb ok.e24 w)
  have C25 := hide (fun w => alu_law_does 4 (by decide) wide a b orr ra rb ok.e25 w)
  have C26 := hide (fun w => alu_law_does 10 (by decide) wide an orr both r_an r_orr ok.e26 w)
  have C27 := hide (fun w => alu_law_does 7 (by decide) wide there c shd r_there rc ok.e27 w)
  have C28 := hide (fun w => alu_law_does 6 (by decide) wide own c there2 r_own rc ok.e28 w)
  have C29 := hide (fun w => alu_law_does 7 (by decide) wide there2 c shd r_there2 rc ok.e29 w)
  have C30 := hide (fun w => alu_law_does 10 (by decide) wide a b both ra rb ok.e30 w)
  have C31 := hide (fun w => alu_law_does 0 (by decide) wide an orr add r_an r_orr ok.e31 w)
  have OB := ok.below
  have R := hide (And.intro ra (And.intro rb rc))
  clear ok rg ra rb rc r_add r_mul r_ad3 r_bc r_mu3 r_bcm r_own r_sub r_neg r_dist r_acm r_quot r_rest r_qb r_bm r_there r_an r_orr r_both r_shd r_there2
  go_enter Try.func3, Try.ntmps3
  go_wp2_with fail
  refine (C0.out _).mono ?_
  rintro e w1 ⟨rfl, hb⟩
  have B1 := hide hb
  clear hb
  go_wp2_with fail
  refine (C1.out _).mono ?_
  rintro e w2 ⟨rfl, hb⟩
  have B2 := hide (B1.out.trans (hb.mono B1.out.size))
  clear hb
  go_wp2_with fail
  refine (C2.out _).mono ?_
  rintro e w3 ⟨rfl, hb⟩
  have B3 := hide (B2.out.trans (hb.mono B2.out.size))
  clear hb
  go_wp2_with fail
  refine (C3.out _).mono ?_
  rintro e w4 ⟨rfl, hb⟩
  have B4 := hide (B3.out.trans (hb.mono B3.out.size))
  clear hb
  go_wp2_with fail
  refine (C4.out _).mono ?_
  rintro e w5 ⟨rfl, hb⟩
  have B5 := hide (B4.out.trans (hb.mono B4.out.size))
  clear hb
  go_wp2_with fail
  refine (C5.out _).mono ?_
  rintro e w6 ⟨rfl, hb⟩
  have B6 := hide (B5.out.trans (hb.mono B5.out.size))
  clear hb
  go_wp2_with fail
  refine (C6.out _).mono ?_
  rintro e w7 ⟨rfl, hb⟩
  have B7 := hide (B6.out.trans (hb.mono B6.out.size))
  clear hb
  go_wp2_with fail
  refine (C7.out _).mono ?_
  rintro e w8 ⟨rfl, hb⟩
  have B8 := hide (B7.out.trans (hb.mono B7.out.size))
  clear hb
  go_wp2_with fail
  refine (C8.out _).mono ?_
  rintro e w9 ⟨rfl, hb⟩
  have B9 := hide (B8.out.trans (hb.mono B8.out.size))
  clear hb
  go_wp2_with fail
  refine (C9.out _).mono ?_
  rintro e w10 ⟨rfl, hb⟩
  have B10 := hide (B9.out.trans (hb.mono B9.out.size))
  clear hb
  go_wp2_with fail
  refine (C10.out _).mono ?_
  rintro e w11 ⟨rfl, hb⟩
  have B11 := hide (B10.out.trans (hb.mono B10.out.size))
  clear hb
  go_wp2_with fail
  refine (C11.out _).mono ?_
  rintro e w12 ⟨rfl, hb⟩
  have B12 := hide (B11.out.trans (hb.mono B11.out.size))
  clear hb
  go_wp2_with fail
  refine (C12.out _).mono ?_
  rintro e w13 ⟨rfl, hb⟩
  have B13 := hide (B12.out.trans (hb.mono B12.out.size))
  clear hb
  go_wp2_with fail
  refine (C13.out _).mono ?_
  rintro e w14 ⟨rfl, hb⟩
  have B14 := hide (B13.out.trans (hb.mono B13.out.size))
  clear hb
  go_wp2_with fail
  refine (C14.out _).mono ?_
  rintro e w15 ⟨rfl, hb⟩
  have B15 := hide (B14.out.trans (hb.mono B14.out.size))
  clear hb
  go_wp2_with fail
  refine (C5.out _).mono ?_
  rintro e w16 ⟨rfl, hb⟩
  have B16 := hide (B15.out.trans (hb.mono B15.out.size))
  clear hb
  go_wp2_with fail
  refine (C15.out _).mono ?_
  rintro e w17 ⟨rfl, hb⟩
  have B17 := hide (B16.out.trans (hb.mono B16.out.size))
  clear hb
  go_wp2_with fail
  refine (C16.out _).mono ?_
  rintro e w18 ⟨rfl, hb⟩
  have B18 := hide (B17.out.trans (hb.mono B17.out.size))
  clear hb
  go_wp2_with fail
  refine (C17.out _).mono ?_
  rintro e w19 ⟨rfl, hb⟩
  have B19 := hide (B18.out.trans (hb.mono B18.out.size))
  clear hb
  go_wp2_with fail
  refine (C18.out _).mono ?_
  rintro e w20 ⟨rfl, hb⟩
  have B20 := hide (B19.out.trans (hb.mono B19.out.size))
  clear hb
  go_wp2_with fail
  refine (C19.out _).mono ?_
  rintro e w21 ⟨rfl, hb⟩
  have B21 := hide (B20.out.trans (hb.mono B20.out.size))
  clear hb
  go_wp2_with fail
  refine (C20.out _).mono ?_
  rintro e w22 ⟨rfl, hb⟩
  have B22 := hide (B21.out.trans (hb.mono B21.out.size))
  clear hb
  go_wp2_with fail
  refine (C21.out _).mono ?_
  rintro e w23 ⟨rfl, hb⟩
  have B23 := hide (B22.out.trans (hb.mono B22.out.size))
  clear hb
  go_wp2_with fail
  refine (C22.out _).mono ?_
  rintro e w24 ⟨rfl, hb⟩
  have B24 := hide (B23.out.trans (hb.mono B23.out.size))
  clear hb
  by_cases hz : bm = 0
  · have d0 : (bm != 0) = false := by simp [hz]
    clear OB
    have HZ := hide hz
    clear hz
    go_wp2_with fail
    refine (C23.out _).mono ?_
    rintro e w25 ⟨rfl, hb⟩
    have B25 := hide (B24.out.trans (hb.mono B24.out.size))
    clear hb
    go_wp2_with fail
    refine (C24.out _).mono ?_
    rintro e w26 ⟨rfl, hb⟩
    have B26 := hide (B25.out.trans (hb.mono B25.out.size))
    clear hb
    go_wp2_with fail
    refine (C25.out _).mono ?_
    rintro e w27 ⟨rfl, hb⟩
    have B27 := hide (B26.out.trans (hb.mono B26.out.size))
    clear hb
    go_wp2_with fail
    refine (C26.out _).mono ?_
    rintro e w28 ⟨rfl, hb⟩
    have B28 := hide (B27.out.trans (hb.mono B27.out.size))
    clear hb
    go_wp2_with fail
    refine (C27.out _).mono ?_
    rintro e w29 ⟨rfl, hb⟩
    have B29 := hide (B28.out.trans (hb.mono B28.out.size))
    clear hb
    go_wp2_with fail
    refine (C28.out _).mono ?_
    rintro e w30 ⟨rfl, hb⟩
    have B30 := hide (B29.out.trans (hb.mono B29.out.size))
    clear hb
    go_wp2_with fail
    refine (C29.out _).mono ?_
    rintro e w31 ⟨rfl, hb⟩
    have B31 := hide (B30.out.trans (hb.mono B30.out.size))
    clear hb
    go_wp2_with fail
    refine (C30.out _).mono ?_
    rintro e w32 ⟨rfl, hb⟩
    have B32 := hide (B31.out.trans (hb.mono B31.out.size))
    clear hb
    go_wp2_with fail
    refine (C24.out _).mono ?_
    rintro e w33 ⟨rfl, hb⟩
    have B33 := hide (B32.out.trans (hb.mono B32.out.size))
    clear hb
    go_wp2_with fail
    refine (C25.out _).mono ?_
    rintro e w34 ⟨rfl, hb⟩
    have B34 := hide (B33.out.trans (hb.mono B33.out.size))
    clear hb
    go_wp2_with fail
    refine (C31.out _).mono ?_
    rintro e w35 ⟨rfl, hb⟩
    have B35 := hide (B34.out.trans (hb.mono B34.out.size))
    clear hb
    go_wp2_with fail
    refine (alu_law_alive _).mono ?_
    rintro e w36 ⟨rfl, hb⟩
    have B36 := hide (B35.out.trans (hb.mono B35.out.size))
    clear hb
    go_wp2_with fail
    go_ret
    exact ⟨rfl, B36.out⟩
  · have d0 : (bm != 0) = true := by simp [hz]
    have d1 : decide (bm ≤ rest) = false := decide_eq_false (by omega)
    clear OB
    have HZ := hide hz
    clear hz
    go_wp2_with fail
    refine (C22.out _).mono ?_
    rintro e w25 ⟨rfl, hb⟩
    have B25 := hide (B24.out.trans (hb.mono B24.out.size))
    clear hb
    go_wp2_with fail
    refine (C23.out _).mono ?_
    rintro e w26 ⟨rfl, hb⟩
    have B26 := hide (B25.out.trans (hb.mono B25.out.size))
    clear hb
    go_wp2_with fail
    refine (C24.out _).mono ?_
    rintro e w27 ⟨rfl, hb⟩
    have B27 := hide (B26.out.trans (hb.mono B26.out.size))
    clear hb
    go_wp2_with fail
    refine (C25.out _).mono ?_
    rintro e w28 ⟨rfl, hb⟩
    have B28 := hide (B27.out.trans (hb.mono B27.out.size))
    clear hb
    go_wp2_with fail
    refine (C26.out _).mono ?_
    rintro e w29 ⟨rfl, hb⟩
    have B29 := hide (B28.out.trans (hb.mono B28.out.size))
    clear hb
    go_wp2_with fail
    refine (C27.out _).mono ?_
    rintro e w30 ⟨rfl, hb⟩
    have B30 := hide (B29.out.trans (hb.mono B29.out.size))
    clear hb
    go_wp2_with fail
    refine (C28.out _).mono ?_
    rintro e w31 ⟨rfl, hb⟩
    have B31 := hide (B30.out.trans (hb.mono B30.out.size))
    clear hb
    go_wp2_with fail
    refine (C29.out _).mono ?_
    rintro e w32 ⟨rfl, hb⟩
    have B32 := hide (B31.out.trans (hb.mono B31.out.size))
    clear hb
    go_wp2_with fail
    refine (C30.out _).mono ?_
    rintro e w33 ⟨rfl, hb⟩
    have B33 := hide (B32.out.trans (hb.mono B32.out.size))
    clear hb
    go_wp2_with fail
    refine (C24.out _).mono ?_
    rintro e w34 ⟨rfl, hb⟩
    have B34 := hide (B33.out.trans (hb.mono B33.out.size))
    clear hb
    go_wp2_with fail
    refine (C25.out _).mono ?_
    rintro e w35 ⟨rfl, hb⟩
    have B35 := hide (B34.out.trans (hb.mono B34.out.size))
    clear hb
    go_wp2_with fail
    refine (C31.out _).mono ?_
    rintro e w36 ⟨rfl, hb⟩
    have B36 := hide (B35.out.trans (hb.mono B35.out.size))
    clear hb
    go_wp2_with fail
    refine (alu_law_alive _).mono ?_
    rintro e w37 ⟨rfl, hb⟩
    have B37 := hide (B36.out.trans (hb.mono B36.out.size))
    clear hb
    go_wp2_with fail
    go_ret
    exact ⟨rfl, B37.out⟩

end Go.Proofs.Ytdlgipoaimgbpaa
