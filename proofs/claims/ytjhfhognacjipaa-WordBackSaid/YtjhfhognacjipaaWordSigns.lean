import Derived.Test.YtjhfhognacjipaaWordWalks
import Derived.Test.YtjhfhognacjipaaWordSets
import Derived.Test.YtjhfhognacjipaaWf
/-! The law WordSigns, walked. Written by gen02.py. -/
namespace Go.Proofs.Ytjhfhognacjipaa
open Go.RowKit
set_option maxHeartbeats 2000000
set_option maxRecDepth 100000
set_option linter.unusedVariables false

theorem word_alive (w : World) : Calls Try.prog 19 #[] w fun e w' => e = .returned (.bool true) ∧ Below w.heap.size w w' := by
  have c1 := word_of 258 2 (by decide) (by decide) w
  rw [show wordOf 258 2 = ⟨#[2, 1]⟩ from rfl] at c1
  have C1 := hide c1
  have C2 := hide (fun w => word_get ⟨#[2, 1]⟩ 0 2 (by decide) w)
  have C3 := hide (fun w => word_get ⟨#[2, 1]⟩ 1 2 (by decide) w)
  have C4 := hide (fun w => word_get ⟨#[2, 1]⟩ 0 3 (by decide) w)
  have C5 := hide (fun w => word_set ⟨#[97, 98, 99, 100]⟩ 1 24930 2 (by decide) (by decide) (by decide) w)
  have C6 := hide (fun w => word_sign 255 1 (by decide) (by decide) w)
  have C7 := hide (fun w => word_sign 128 2 (by decide) (by decide) w)
  have C8 := hide (fun w => word_low 258 1 (by decide) (by decide) w)
  have C9 := hide (fun w => word_sign 9223372036854775808 8 (by decide) (by decide) w)
  rw [show wordGet ⟨#[2, 1]⟩ 0 2 = (258, 0) by decide +kernel] at C2
  rw [show wordGet ⟨#[2, 1]⟩ 1 2 = (0, 10) by decide +kernel] at C3
  rw [show wordGet ⟨#[2, 1]⟩ 0 3 = (0, 2) by decide +kernel] at C4
  rw [show wordSet ⟨#[97, 98, 99, 100]⟩ 1 24930 2 = (⟨#[97, 98, 97, 100]⟩, 0) by decide +kernel] at C5
  rw [show wordSign 255 1 = -1 by decide +kernel] at C6
  rw [show wordSign 128 2 = 128 by decide +kernel] at C7
  rw [show wordLow 258 1 = 2 by decide +kernel] at C8
  rw [show wordSign 9223372036854775808 8 = -9223372036854775808 by decide +kernel] at C9
  clear c1
  go_enter Try.func19, Try.ntmps19
  go_wp2_with fail
  refine C1.out.mono ?_
  rintro e w1 ⟨rfl, h1⟩
  go_wp2_with fail
  refine (C2.out _).mono ?_
  rintro e w2 ⟨rfl, rfl⟩
  go_wp2_with fail
  refine (C3.out _).mono ?_
  rintro e w2 ⟨rfl, rfl⟩
  go_wp2_with fail
  refine (C4.out _).mono ?_
  rintro e w2 ⟨rfl, rfl⟩
  go_wp2_with fail
  refine (C5.out _).mono ?_
  rintro e w2 ⟨rfl, h2⟩
  go_wp2_with fail
  refine (C6.out _).mono ?_
  rintro e w3 ⟨rfl, rfl⟩
  go_wp2_with fail
  refine (C7.out _).mono ?_
  rintro e w3 ⟨rfl, rfl⟩
  go_wp2_with fail
  refine (C8.out _).mono ?_
  rintro e w3 ⟨rfl, rfl⟩
  go_wp2_with fail
  refine (C9.out _).mono ?_
  rintro e w3 ⟨rfl, rfl⟩
  go_wp2_with fail
  go_ret
  exact ⟨rfl, h1.trans (h2.mono h1.size)⟩

theorem word_sizes (w : World) : Calls Try.prog 30 #[] w fun e w' => e = .returned (.slice (some ⟨w.heap.size, 0, none⟩) 4 4) ∧ w' = w.alloc (.cells #[.int .i64 1, .int .i64 2, .int .i64 4, .int .i64 8] 3) := by
  go_enter Try.func30, Try.ntmps30
  go_wp2_with fail
  go_ret
  exact ⟨rfl, rfl⟩

/-- A law's round: the sizes' own block and the loop's place. -/
def SignsRel (w : World) (v5 : Value) (wr : World) : Prop := ∃ k : Nat, k ≤ 4 ∧ v5 = .int .i64 k ∧ Has wr w.heap.size 3 #[.int .i64 1, .int .i64 2, .int .i64 4, .int .i64 8] ∧ Below w.heap.size w wr


theorem word_signs_walk (w : World) (x : Int) (wx : (Lit.int .u64 x).wf = true) (y : Int) (wy : (Lit.int .u64 y).wf = true) :
    Calls Try.prog 10 #[.int .u64 x, .int .u64 y] w fun e w' => e = .returned (.bool true) ∧ Below w.heap.size w w' := by
  have h0 := wf_u64 wx
  have h1 := wf_u64 wy
  clear wx wy
  have H0 := hide h0
  have H1 := hide h1
  clear h0 h1
  go_enter Try.func10, Try.ntmps10
  go_wp2_with fail
  refine (word_sizes _).mono ?_
  rintro e w1 ⟨rfl, hw1⟩
  have hA : Has w1 w.heap.size 3 #[.int .i64 1, .int .i64 2, .int .i64 4, .int .i64 8] := by rw [hw1]; exact Has.new _ _ _
  have hB : Below w.heap.size w w1 := by rw [hw1]; exact (Below.refl _ w).alloc (Nat.le_refl _) _
  have HHA := hide hA
  have HHB := hide hB
  clear hw1 hA hB
  go_wp2_with fail
  go_loopw [6] (fun v5 wr => SignsRel w v5 wr) (fun i _ => 4 - (intOf i).toNat)
  case atStart => exact ⟨0, by omega, rfl, HHA.out, HHB.out⟩
  case round =>
    obtain ⟨k, hk, rfl, hA, hB⟩ := hrel
    clear HHA HHB
    have hHA := hide hA
    have hHB := hide hB
    have e0 := hA.cell 0
    have e1 := hA.cell 1
    have e2 := hA.cell 2
    have e3 := hA.cell 3
    simp at e0 e1 e2 e3
    have h0 := H0.out
    have h1 := H1.out
    have hk2 : k = 0 ∨ k = 1 ∨ k = 2 ∨ k = 3 ∨ k = 4 := by omega
    rcases hk2 with rfl | rfl | rfl | rfl | rfl
    · have so := sign_ok x 1 h0.1 h0.2 (by decide)
      have lr := low_range x 1 h0.1
      have lv : wordLow x 1 = x % 256 := rfl
      have sv : wordSign x 1 = if x % 256 < 128 then x % 256 else x % 256 - 256 := rfl
      have hs2 : (0 ≤ wordSign x 1 ∧ wordSign x 1 = wordLow x 1 ∧ wordLow x 1 < 128) ∨ (wordSign x 1 < 0 ∧ wordLow x 1 = wordSign x 1 + 256 ∧ -128 ≤ wordSign x 1) := by
        rw [lv, sv]
        split <;> omega
      have hwm : 0 ≤ IntKind.u64.wrap (wordSign x 1) ∧ IntKind.u64.wrap (wordSign x 1) < 18446744073709551616 := by rw [u64_mod]; omega
      have b1 : wordOf (IntKind.u64.wrap (wordSign x 1)) 1 = wordOf x 1 := (of_same _ x 1 hwm.1 hwm.2 h0.1 h0.2).2 so.lows
      have cB1 := fun w => word_of (IntKind.u64.wrap (wordSign x 1)) 1 hwm.1 hwm.2 w
      have cB2 := fun w => word_of x 1 h0.1 h0.2 w
      have cBy := fun w => word_of y 1 h1.1 h1.2 w
      have cS := fun w => word_sign x 1 h0.1 h0.2 w
      have cL := fun w => word_low x 1 h0.1 h0.2 w
      have cLy := fun w => word_low y 1 h1.1 h1.2 w
      have cLL := fun w => word_low (wordLow x 1) 1 lr.1 (by omega) w
      have cSS := fun w => word_sign (IntKind.u64.wrap (wordSign x 1)) 1 hwm.1 hwm.2 w
      have sm := of_same x y 1 h0.1 h0.2 h1.1 h1.2
      rw [so.again] at cLL
      rw [u64_mod, so.sign, ← u64_mod] at cSS
      rw [b1] at cB1
      generalize wordSign x 1 = s at *
      generalize wordLow x 1 = low at *
      generalize wordOf x 1 = B at *
      generalize wordOf y 1 = C at *
      generalize wordLow y 1 = ly at *
      have CS := hide cS
      have CL0 := hide cL
      have C1 := hide cB1
      have C2 := hide cB2
      have CX := hide cB2
      have CY := hide cBy
      have CL := hide cLy
      have CLL := hide cLL
      have CSS := hide cSS
      have SM := hide sm
      have HA1 := hide hA
      have HB1 := hide hB
      have l0 := lr.1
      have l1 := lr.2
      have x1 := h0.2
      clear so lr lv sv hwm b1 cB1 cB2 cBy cS cL cLy cLL cSS sm hA hB hHB hHA h0 h1
      go_wp2_with fail
      refine (CS.out _).mono ?_
      rintro e w2 ⟨rfl, rfl⟩
      go_wp2_with fail
      refine (CL0.out _).mono ?_
      rintro e w2 ⟨rfl, rfl⟩
      go_wp2_with fail
      refine (C1.out _).mono ?_
      rintro e w2 ⟨rfl, hb1⟩
      have hB1 := HB1.out.trans (hb1.mono HB1.out.size)
      have hA1 := HA1.out.below hb1 (by have := HA1.out.lt; omega)
      go_wp2_with fail
      refine (C2.out _).mono ?_
      rintro e w3 ⟨rfl, hb2⟩
      have hB2 := hB1.trans (hb2.mono hB1.size)
      have hA2 := hA1.below hb2 (by have := hA1.lt; omega)
      have HB2 := hide hB2
      have HA2 := hide hA2
      clear hb1 hb2 hB1 hA1 hB2 hA2
      go_wp2_with fail
      refine (CLL.out _).mono ?_
      rintro e w4 ⟨rfl, rfl⟩
      go_wp2_with fail
      refine (CSS.out _).mono ?_
      rintro e w4 ⟨rfl, rfl⟩
      rcases hs2 with ⟨p1, p2, p3⟩ | ⟨p1, p2, p3⟩
      · subst p2
        have q1 : (s / 128 == 0) = true := by simp; omega
        have q2 : IntKind.u64.wrap s = s := by rw [u64_mod]; omega
        by_cases hl : s = ly
        · subst hl
          obtain rfl : B = C := SM.out.2 rfl
          go_wp2_with fail
          refine (CX.out _).mono ?_
          rintro e w4 ⟨rfl, hb3⟩
          have hB3 := HB2.out.trans (hb3.mono HB2.out.size)
          have hA3 := HA2.out.below hb3 (by have := HA2.out.lt; omega)
          go_wp2_with fail
          refine (CY.out _).mono ?_
          rintro e w5 ⟨rfl, hb4⟩
          have hB4 := hB3.trans (hb4.mono hB3.size)
          have hA4 := hA3.below hb4 (by have := hA3.lt; omega)
          clear hb3 hb4 hB3 hA3
          have HB4 := hide hB4
          have HA4 := hide hA4
          clear hB4 hA4
          go_wp2_with fail
          refine (CL.out _).mono ?_
          rintro e w6 ⟨rfl, rfl⟩
          go_wp2_with fail
          go_roundw
          case rel => exact ⟨1, by omega, by first | rfl | go_num, HA4.out, HB4.out⟩
          case measure => simp [intOf]
        · have hl2 : (s == ly) = false := beq_eq_false_iff_ne.2 hl
          have hl3 : (B.toList == C.toList) = false := beq_eq_false_iff_ne.2 fun z => hl (SM.out.1 (toList_inj z))
          go_wp2_with fail
          refine (CX.out _).mono ?_
          rintro e w4 ⟨rfl, hb3⟩
          have hB3 := HB2.out.trans (hb3.mono HB2.out.size)
          have hA3 := HA2.out.below hb3 (by have := HA2.out.lt; omega)
          go_wp2_with fail
          refine (CY.out _).mono ?_
          rintro e w5 ⟨rfl, hb4⟩
          have hB4 := hB3.trans (hb4.mono hB3.size)
          have hA4 := hA3.below hb4 (by have := hA3.lt; omega)
          clear hb3 hb4 hB3 hA3
          have HB4 := hide hB4
          have HA4 := hide hA4
          clear hB4 hA4
          go_wp2_with fail
          refine (CL.out _).mono ?_
          rintro e w6 ⟨rfl, rfl⟩
          go_wp2_with fail
          go_roundw
          case rel => exact ⟨1, by omega, by first | rfl | go_num, HA4.out, HB4.out⟩
          case measure => simp [intOf]
      · subst p2
        have q1 : ((s + 256) / 128 == 0) = false := by rw [beq_eq_false_iff_ne]; omega
        have q3 : IntKind.u64.wrap (wrap64 (s + 256)) = s + 256 := by rw [u64_mod]; unfold wrap64; omega
        by_cases hl : s + 256 = ly
        · subst hl
          obtain rfl : B = C := SM.out.2 rfl
          go_wp2_with fail
          refine (CX.out _).mono ?_
          rintro e w4 ⟨rfl, hb3⟩
          have hB3 := HB2.out.trans (hb3.mono HB2.out.size)
          have hA3 := HA2.out.below hb3 (by have := HA2.out.lt; omega)
          go_wp2_with fail
          refine (CY.out _).mono ?_
          rintro e w5 ⟨rfl, hb4⟩
          have hB4 := hB3.trans (hb4.mono hB3.size)
          have hA4 := hA3.below hb4 (by have := hA3.lt; omega)
          clear hb3 hb4 hB3 hA3
          have HB4 := hide hB4
          have HA4 := hide hA4
          clear hB4 hA4
          go_wp2_with fail
          refine (CL.out _).mono ?_
          rintro e w6 ⟨rfl, rfl⟩
          go_wp2_with fail
          go_roundw
          case rel => exact ⟨1, by omega, by first | rfl | go_num, HA4.out, HB4.out⟩
          case measure => simp [intOf]
        · have hl2 : (s + 256 == ly) = false := beq_eq_false_iff_ne.2 hl
          have hl3 : (B.toList == C.toList) = false := beq_eq_false_iff_ne.2 fun z => hl (SM.out.1 (toList_inj z))
          go_wp2_with fail
          refine (CX.out _).mono ?_
          rintro e w4 ⟨rfl, hb3⟩
          have hB3 := HB2.out.trans (hb3.mono HB2.out.size)
          have hA3 := HA2.out.below hb3 (by have := HA2.out.lt; omega)
          go_wp2_with fail
          refine (CY.out _).mono ?_
          rintro e w5 ⟨rfl, hb4⟩
          have hB4 := hB3.trans (hb4.mono hB3.size)
          have hA4 := hA3.below hb4 (by have := hA3.lt; omega)
          clear hb3 hb4 hB3 hA3
          have HB4 := hide hB4
          have HA4 := hide hA4
          clear hB4 hA4
          go_wp2_with fail
          refine (CL.out _).mono ?_
          rintro e w6 ⟨rfl, rfl⟩
          go_wp2_with fail
          go_roundw
          case rel => exact ⟨1, by omega, by first | rfl | go_num, HA4.out, HB4.out⟩
          case measure => simp [intOf]
    · have so := sign_ok x 2 h0.1 h0.2 (by decide)
      have lr := low_range x 2 h0.1
      have lv : wordLow x 2 = x % 65536 := rfl
      have sv : wordSign x 2 = if x % 65536 < 32768 then x % 65536 else x % 65536 - 65536 := rfl
      have hs2 : (0 ≤ wordSign x 2 ∧ wordSign x 2 = wordLow x 2 ∧ wordLow x 2 < 32768) ∨ (wordSign x 2 < 0 ∧ wordLow x 2 = wordSign x 2 + 65536 ∧ -32768 ≤ wordSign x 2) := by
        rw [lv, sv]
        split <;> omega
      have hwm : 0 ≤ IntKind.u64.wrap (wordSign x 2) ∧ IntKind.u64.wrap (wordSign x 2) < 18446744073709551616 := by rw [u64_mod]; omega
      have b1 : wordOf (IntKind.u64.wrap (wordSign x 2)) 2 = wordOf x 2 := (of_same _ x 2 hwm.1 hwm.2 h0.1 h0.2).2 so.lows
      have cB1 := fun w => word_of (IntKind.u64.wrap (wordSign x 2)) 2 hwm.1 hwm.2 w
      have cB2 := fun w => word_of x 2 h0.1 h0.2 w
      have cBy := fun w => word_of y 2 h1.1 h1.2 w
      have cS := fun w => word_sign x 2 h0.1 h0.2 w
      have cL := fun w => word_low x 2 h0.1 h0.2 w
      have cLy := fun w => word_low y 2 h1.1 h1.2 w
      have cLL := fun w => word_low (wordLow x 2) 2 lr.1 (by omega) w
      have cSS := fun w => word_sign (IntKind.u64.wrap (wordSign x 2)) 2 hwm.1 hwm.2 w
      have sm := of_same x y 2 h0.1 h0.2 h1.1 h1.2
      rw [so.again] at cLL
      rw [u64_mod, so.sign, ← u64_mod] at cSS
      rw [b1] at cB1
      generalize wordSign x 2 = s at *
      generalize wordLow x 2 = low at *
      generalize wordOf x 2 = B at *
      generalize wordOf y 2 = C at *
      generalize wordLow y 2 = ly at *
      have CS := hide cS
      have CL0 := hide cL
      have C1 := hide cB1
      have C2 := hide cB2
      have CX := hide cB2
      have CY := hide cBy
      have CL := hide cLy
      have CLL := hide cLL
      have CSS := hide cSS
      have SM := hide sm
      have HA1 := hide hA
      have HB1 := hide hB
      have l0 := lr.1
      have l1 := lr.2
      have x1 := h0.2
      clear so lr lv sv hwm b1 cB1 cB2 cBy cS cL cLy cLL cSS sm hA hB hHB hHA h0 h1
      go_wp2_with fail
      refine (CS.out _).mono ?_
      rintro e w2 ⟨rfl, rfl⟩
      go_wp2_with fail
      refine (CL0.out _).mono ?_
      rintro e w2 ⟨rfl, rfl⟩
      go_wp2_with fail
      refine (C1.out _).mono ?_
      rintro e w2 ⟨rfl, hb1⟩
      have hB1 := HB1.out.trans (hb1.mono HB1.out.size)
      have hA1 := HA1.out.below hb1 (by have := HA1.out.lt; omega)
      go_wp2_with fail
      refine (C2.out _).mono ?_
      rintro e w3 ⟨rfl, hb2⟩
      have hB2 := hB1.trans (hb2.mono hB1.size)
      have hA2 := hA1.below hb2 (by have := hA1.lt; omega)
      have HB2 := hide hB2
      have HA2 := hide hA2
      clear hb1 hb2 hB1 hA1 hB2 hA2
      go_wp2_with fail
      refine (CLL.out _).mono ?_
      rintro e w4 ⟨rfl, rfl⟩
      go_wp2_with fail
      refine (CSS.out _).mono ?_
      rintro e w4 ⟨rfl, rfl⟩
      rcases hs2 with ⟨p1, p2, p3⟩ | ⟨p1, p2, p3⟩
      · subst p2
        have q1 : (s / 32768 == 0) = true := by simp; omega
        have q2 : IntKind.u64.wrap s = s := by rw [u64_mod]; omega
        by_cases hl : s = ly
        · subst hl
          obtain rfl : B = C := SM.out.2 rfl
          go_wp2_with fail
          refine (CX.out _).mono ?_
          rintro e w4 ⟨rfl, hb3⟩
          have hB3 := HB2.out.trans (hb3.mono HB2.out.size)
          have hA3 := HA2.out.below hb3 (by have := HA2.out.lt; omega)
          go_wp2_with fail
          refine (CY.out _).mono ?_
          rintro e w5 ⟨rfl, hb4⟩
          have hB4 := hB3.trans (hb4.mono hB3.size)
          have hA4 := hA3.below hb4 (by have := hA3.lt; omega)
          clear hb3 hb4 hB3 hA3
          have HB4 := hide hB4
          have HA4 := hide hA4
          clear hB4 hA4
          go_wp2_with fail
          refine (CL.out _).mono ?_
          rintro e w6 ⟨rfl, rfl⟩
          go_wp2_with fail
          go_roundw
          case rel => exact ⟨2, by omega, by first | rfl | go_num, HA4.out, HB4.out⟩
          case measure => simp [intOf]
        · have hl2 : (s == ly) = false := beq_eq_false_iff_ne.2 hl
          have hl3 : (B.toList == C.toList) = false := beq_eq_false_iff_ne.2 fun z => hl (SM.out.1 (toList_inj z))
          go_wp2_with fail
          refine (CX.out _).mono ?_
          rintro e w4 ⟨rfl, hb3⟩
          have hB3 := HB2.out.trans (hb3.mono HB2.out.size)
          have hA3 := HA2.out.below hb3 (by have := HA2.out.lt; omega)
          go_wp2_with fail
          refine (CY.out _).mono ?_
          rintro e w5 ⟨rfl, hb4⟩
          have hB4 := hB3.trans (hb4.mono hB3.size)
          have hA4 := hA3.below hb4 (by have := hA3.lt; omega)
          clear hb3 hb4 hB3 hA3
          have HB4 := hide hB4
          have HA4 := hide hA4
          clear hB4 hA4
          go_wp2_with fail
          refine (CL.out _).mono ?_
          rintro e w6 ⟨rfl, rfl⟩
          go_wp2_with fail
          go_roundw
          case rel => exact ⟨2, by omega, by first | rfl | go_num, HA4.out, HB4.out⟩
          case measure => simp [intOf]
      · subst p2
        have q1 : ((s + 65536) / 32768 == 0) = false := by rw [beq_eq_false_iff_ne]; omega
        have q3 : IntKind.u64.wrap (wrap64 (s + 65536)) = s + 65536 := by rw [u64_mod]; unfold wrap64; omega
        by_cases hl : s + 65536 = ly
        · subst hl
          obtain rfl : B = C := SM.out.2 rfl
          go_wp2_with fail
          refine (CX.out _).mono ?_
          rintro e w4 ⟨rfl, hb3⟩
          have hB3 := HB2.out.trans (hb3.mono HB2.out.size)
          have hA3 := HA2.out.below hb3 (by have := HA2.out.lt; omega)
          go_wp2_with fail
          refine (CY.out _).mono ?_
          rintro e w5 ⟨rfl, hb4⟩
          have hB4 := hB3.trans (hb4.mono hB3.size)
          have hA4 := hA3.below hb4 (by have := hA3.lt; omega)
          clear hb3 hb4 hB3 hA3
          have HB4 := hide hB4
          have HA4 := hide hA4
          clear hB4 hA4
          go_wp2_with fail
          refine (CL.out _).mono ?_
          rintro e w6 ⟨rfl, rfl⟩
          go_wp2_with fail
          go_roundw
          case rel => exact ⟨2, by omega, by first | rfl | go_num, HA4.out, HB4.out⟩
          case measure => simp [intOf]
        · have hl2 : (s + 65536 == ly) = false := beq_eq_false_iff_ne.2 hl
          have hl3 : (B.toList == C.toList) = false := beq_eq_false_iff_ne.2 fun z => hl (SM.out.1 (toList_inj z))
          go_wp2_with fail
          refine (CX.out _).mono ?_
          rintro e w4 ⟨rfl, hb3⟩
          have hB3 := HB2.out.trans (hb3.mono HB2.out.size)
          have hA3 := HA2.out.below hb3 (by have := HA2.out.lt; omega)
          go_wp2_with fail
          refine (CY.out _).mono ?_
          rintro e w5 ⟨rfl, hb4⟩
          have hB4 := hB3.trans (hb4.mono hB3.size)
          have hA4 := hA3.below hb4 (by have := hA3.lt; omega)
          clear hb3 hb4 hB3 hA3
          have HB4 := hide hB4
          have HA4 := hide hA4
          clear hB4 hA4
          go_wp2_with fail
          refine (CL.out _).mono ?_
          rintro e w6 ⟨rfl, rfl⟩
          go_wp2_with fail
          go_roundw
          case rel => exact ⟨2, by omega, by first | rfl | go_num, HA4.out, HB4.out⟩
          case measure => simp [intOf]
    · have so := sign_ok x 4 h0.1 h0.2 (by decide)
      have lr := low_range x 4 h0.1
      have lv : wordLow x 4 = x % 4294967296 := rfl
      have sv : wordSign x 4 = if x % 4294967296 < 2147483648 then x % 4294967296 else x % 4294967296 - 4294967296 := rfl
      have hs2 : (0 ≤ wordSign x 4 ∧ wordSign x 4 = wordLow x 4 ∧ wordLow x 4 < 2147483648) ∨ (wordSign x 4 < 0 ∧ wordLow x 4 = wordSign x 4 + 4294967296 ∧ -2147483648 ≤ wordSign x 4) := by
        rw [lv, sv]
        split <;> omega
      have hwm : 0 ≤ IntKind.u64.wrap (wordSign x 4) ∧ IntKind.u64.wrap (wordSign x 4) < 18446744073709551616 := by rw [u64_mod]; omega
      have b1 : wordOf (IntKind.u64.wrap (wordSign x 4)) 4 = wordOf x 4 := (of_same _ x 4 hwm.1 hwm.2 h0.1 h0.2).2 so.lows
      have cB1 := fun w => word_of (IntKind.u64.wrap (wordSign x 4)) 4 hwm.1 hwm.2 w
      have cB2 := fun w => word_of x 4 h0.1 h0.2 w
      have cBy := fun w => word_of y 4 h1.1 h1.2 w
      have cS := fun w => word_sign x 4 h0.1 h0.2 w
      have cL := fun w => word_low x 4 h0.1 h0.2 w
      have cLy := fun w => word_low y 4 h1.1 h1.2 w
      have cLL := fun w => word_low (wordLow x 4) 4 lr.1 (by omega) w
      have cSS := fun w => word_sign (IntKind.u64.wrap (wordSign x 4)) 4 hwm.1 hwm.2 w
      have sm := of_same x y 4 h0.1 h0.2 h1.1 h1.2
      rw [so.again] at cLL
      rw [u64_mod, so.sign, ← u64_mod] at cSS
      rw [b1] at cB1
      generalize wordSign x 4 = s at *
      generalize wordLow x 4 = low at *
      generalize wordOf x 4 = B at *
      generalize wordOf y 4 = C at *
      generalize wordLow y 4 = ly at *
      have CS := hide cS
      have CL0 := hide cL
      have C1 := hide cB1
      have C2 := hide cB2
      have CX := hide cB2
      have CY := hide cBy
      have CL := hide cLy
      have CLL := hide cLL
      have CSS := hide cSS
      have SM := hide sm
      have HA1 := hide hA
      have HB1 := hide hB
      have l0 := lr.1
      have l1 := lr.2
      have x1 := h0.2
      clear so lr lv sv hwm b1 cB1 cB2 cBy cS cL cLy cLL cSS sm hA hB hHB hHA h0 h1
      go_wp2_with fail
      refine (CS.out _).mono ?_
      rintro e w2 ⟨rfl, rfl⟩
      go_wp2_with fail
      refine (CL0.out _).mono ?_
      rintro e w2 ⟨rfl, rfl⟩
      go_wp2_with fail
      refine (C1.out _).mono ?_
      rintro e w2 ⟨rfl, hb1⟩
      have hB1 := HB1.out.trans (hb1.mono HB1.out.size)
      have hA1 := HA1.out.below hb1 (by have := HA1.out.lt; omega)
      go_wp2_with fail
      refine (C2.out _).mono ?_
      rintro e w3 ⟨rfl, hb2⟩
      have hB2 := hB1.trans (hb2.mono hB1.size)
      have hA2 := hA1.below hb2 (by have := hA1.lt; omega)
      have HB2 := hide hB2
      have HA2 := hide hA2
      clear hb1 hb2 hB1 hA1 hB2 hA2
      go_wp2_with fail
      refine (CLL.out _).mono ?_
      rintro e w4 ⟨rfl, rfl⟩
      go_wp2_with fail
      refine (CSS.out _).mono ?_
      rintro e w4 ⟨rfl, rfl⟩
      rcases hs2 with ⟨p1, p2, p3⟩ | ⟨p1, p2, p3⟩
      · subst p2
        have q1 : (s / 2147483648 == 0) = true := by simp; omega
        have q2 : IntKind.u64.wrap s = s := by rw [u64_mod]; omega
        by_cases hl : s = ly
        · subst hl
          obtain rfl : B = C := SM.out.2 rfl
          go_wp2_with fail
          refine (CX.out _).mono ?_
          rintro e w4 ⟨rfl, hb3⟩
          have hB3 := HB2.out.trans (hb3.mono HB2.out.size)
          have hA3 := HA2.out.below hb3 (by have := HA2.out.lt; omega)
          go_wp2_with fail
          refine (CY.out _).mono ?_
          rintro e w5 ⟨rfl, hb4⟩
          have hB4 := hB3.trans (hb4.mono hB3.size)
          have hA4 := hA3.below hb4 (by have := hA3.lt; omega)
          clear hb3 hb4 hB3 hA3
          have HB4 := hide hB4
          have HA4 := hide hA4
          clear hB4 hA4
          go_wp2_with fail
          refine (CL.out _).mono ?_
          rintro e w6 ⟨rfl, rfl⟩
          go_wp2_with fail
          go_roundw
          case rel => exact ⟨3, by omega, by first | rfl | go_num, HA4.out, HB4.out⟩
          case measure => simp [intOf]
        · have hl2 : (s == ly) = false := beq_eq_false_iff_ne.2 hl
          have hl3 : (B.toList == C.toList) = false := beq_eq_false_iff_ne.2 fun z => hl (SM.out.1 (toList_inj z))
          go_wp2_with fail
          refine (CX.out _).mono ?_
          rintro e w4 ⟨rfl, hb3⟩
          have hB3 := HB2.out.trans (hb3.mono HB2.out.size)
          have hA3 := HA2.out.below hb3 (by have := HA2.out.lt; omega)
          go_wp2_with fail
          refine (CY.out _).mono ?_
          rintro e w5 ⟨rfl, hb4⟩
          have hB4 := hB3.trans (hb4.mono hB3.size)
          have hA4 := hA3.below hb4 (by have := hA3.lt; omega)
          clear hb3 hb4 hB3 hA3
          have HB4 := hide hB4
          have HA4 := hide hA4
          clear hB4 hA4
          go_wp2_with fail
          refine (CL.out _).mono ?_
          rintro e w6 ⟨rfl, rfl⟩
          go_wp2_with fail
          go_roundw
          case rel => exact ⟨3, by omega, by first | rfl | go_num, HA4.out, HB4.out⟩
          case measure => simp [intOf]
      · subst p2
        have q1 : ((s + 4294967296) / 2147483648 == 0) = false := by rw [beq_eq_false_iff_ne]; omega
        have q3 : IntKind.u64.wrap (wrap64 (s + 4294967296)) = s + 4294967296 := by rw [u64_mod]; unfold wrap64; omega
        by_cases hl : s + 4294967296 = ly
        · subst hl
          obtain rfl : B = C := SM.out.2 rfl
          go_wp2_with fail
          refine (CX.out _).mono ?_
          rintro e w4 ⟨rfl, hb3⟩
          have hB3 := HB2.out.trans (hb3.mono HB2.out.size)
          have hA3 := HA2.out.below hb3 (by have := HA2.out.lt; omega)
          go_wp2_with fail
          refine (CY.out _).mono ?_
          rintro e w5 ⟨rfl, hb4⟩
          have hB4 := hB3.trans (hb4.mono hB3.size)
          have hA4 := hA3.below hb4 (by have := hA3.lt; omega)
          clear hb3 hb4 hB3 hA3
          have HB4 := hide hB4
          have HA4 := hide hA4
          clear hB4 hA4
          go_wp2_with fail
          refine (CL.out _).mono ?_
          rintro e w6 ⟨rfl, rfl⟩
          go_wp2_with fail
          go_roundw
          case rel => exact ⟨3, by omega, by first | rfl | go_num, HA4.out, HB4.out⟩
          case measure => simp [intOf]
        · have hl2 : (s + 4294967296 == ly) = false := beq_eq_false_iff_ne.2 hl
          have hl3 : (B.toList == C.toList) = false := beq_eq_false_iff_ne.2 fun z => hl (SM.out.1 (toList_inj z))
          go_wp2_with fail
          refine (CX.out _).mono ?_
          rintro e w4 ⟨rfl, hb3⟩
          have hB3 := HB2.out.trans (hb3.mono HB2.out.size)
          have hA3 := HA2.out.below hb3 (by have := HA2.out.lt; omega)
          go_wp2_with fail
          refine (CY.out _).mono ?_
          rintro e w5 ⟨rfl, hb4⟩
          have hB4 := hB3.trans (hb4.mono hB3.size)
          have hA4 := hA3.below hb4 (by have := hA3.lt; omega)
          clear hb3 hb4 hB3 hA3
          have HB4 := hide hB4
          have HA4 := hide hA4
          clear hB4 hA4
          go_wp2_with fail
          refine (CL.out _).mono ?_
          rintro e w6 ⟨rfl, rfl⟩
          go_wp2_with fail
          go_roundw
          case rel => exact ⟨3, by omega, by first | rfl | go_num, HA4.out, HB4.out⟩
          case measure => simp [intOf]
    · have so := sign_ok x 8 h0.1 h0.2 (by decide)
      have lr := low_range x 8 h0.1
      have lv : wordLow x 8 = x % 18446744073709551616 := rfl
      have sv : wordSign x 8 = if x % 18446744073709551616 < 9223372036854775808 then x % 18446744073709551616 else x % 18446744073709551616 - 18446744073709551616 := rfl
      have hs2 : (0 ≤ wordSign x 8 ∧ wordSign x 8 = wordLow x 8 ∧ wordLow x 8 < 9223372036854775808) ∨ (wordSign x 8 < 0 ∧ wordLow x 8 = wordSign x 8 + 18446744073709551616 ∧ -9223372036854775808 ≤ wordSign x 8) := by
        rw [lv, sv]
        split <;> omega
      have hwm : 0 ≤ IntKind.u64.wrap (wordSign x 8) ∧ IntKind.u64.wrap (wordSign x 8) < 18446744073709551616 := by rw [u64_mod]; omega
      have b1 : wordOf (IntKind.u64.wrap (wordSign x 8)) 8 = wordOf x 8 := (of_same _ x 8 hwm.1 hwm.2 h0.1 h0.2).2 so.lows
      have cB1 := fun w => word_of (IntKind.u64.wrap (wordSign x 8)) 8 hwm.1 hwm.2 w
      have cB2 := fun w => word_of x 8 h0.1 h0.2 w
      have cBy := fun w => word_of y 8 h1.1 h1.2 w
      have cS := fun w => word_sign x 8 h0.1 h0.2 w
      have cL := fun w => word_low x 8 h0.1 h0.2 w
      have cLy := fun w => word_low y 8 h1.1 h1.2 w
      have cLL := fun w => word_low (wordLow x 8) 8 lr.1 (by omega) w
      have cSS := fun w => word_sign (IntKind.u64.wrap (wordSign x 8)) 8 hwm.1 hwm.2 w
      have sm := of_same x y 8 h0.1 h0.2 h1.1 h1.2
      rw [so.again] at cLL
      rw [u64_mod, so.sign, ← u64_mod] at cSS
      rw [b1] at cB1
      generalize wordSign x 8 = s at *
      generalize wordLow x 8 = low at *
      generalize wordOf x 8 = B at *
      generalize wordOf y 8 = C at *
      generalize wordLow y 8 = ly at *
      have CS := hide cS
      have CL0 := hide cL
      have C1 := hide cB1
      have C2 := hide cB2
      have CX := hide cB2
      have CY := hide cBy
      have CL := hide cLy
      have CLL := hide cLL
      have CSS := hide cSS
      have SM := hide sm
      have HA1 := hide hA
      have HB1 := hide hB
      have l0 := lr.1
      have l1 := lr.2
      have x1 := h0.2
      clear so lr lv sv hwm b1 cB1 cB2 cBy cS cL cLy cLL cSS sm hA hB hHB hHA h0 h1
      go_wp2_with fail
      refine (CS.out _).mono ?_
      rintro e w2 ⟨rfl, rfl⟩
      go_wp2_with fail
      refine (CL0.out _).mono ?_
      rintro e w2 ⟨rfl, rfl⟩
      go_wp2_with fail
      refine (C1.out _).mono ?_
      rintro e w2 ⟨rfl, hb1⟩
      have hB1 := HB1.out.trans (hb1.mono HB1.out.size)
      have hA1 := HA1.out.below hb1 (by have := HA1.out.lt; omega)
      go_wp2_with fail
      refine (C2.out _).mono ?_
      rintro e w3 ⟨rfl, hb2⟩
      have hB2 := hB1.trans (hb2.mono hB1.size)
      have hA2 := hA1.below hb2 (by have := hA1.lt; omega)
      have HB2 := hide hB2
      have HA2 := hide hA2
      clear hb1 hb2 hB1 hA1 hB2 hA2
      go_wp2_with fail
      refine (CLL.out _).mono ?_
      rintro e w4 ⟨rfl, rfl⟩
      go_wp2_with fail
      refine (CSS.out _).mono ?_
      rintro e w4 ⟨rfl, rfl⟩
      rcases hs2 with ⟨p1, p2, p3⟩ | ⟨p1, p2, p3⟩
      · subst p2
        have q1 : (s / 9223372036854775808 == 0) = true := by simp; omega
        have q2 : IntKind.u64.wrap s = s := by rw [u64_mod]; omega
        by_cases hl : s = ly
        · subst hl
          obtain rfl : B = C := SM.out.2 rfl
          go_wp2_with fail
          refine (CX.out _).mono ?_
          rintro e w4 ⟨rfl, hb3⟩
          have hB3 := HB2.out.trans (hb3.mono HB2.out.size)
          have hA3 := HA2.out.below hb3 (by have := HA2.out.lt; omega)
          go_wp2_with fail
          refine (CY.out _).mono ?_
          rintro e w5 ⟨rfl, hb4⟩
          have hB4 := hB3.trans (hb4.mono hB3.size)
          have hA4 := hA3.below hb4 (by have := hA3.lt; omega)
          clear hb3 hb4 hB3 hA3
          have HB4 := hide hB4
          have HA4 := hide hA4
          clear hB4 hA4
          go_wp2_with fail
          refine (CL.out _).mono ?_
          rintro e w6 ⟨rfl, rfl⟩
          go_wp2_with fail
          go_roundw
          case rel => exact ⟨4, by omega, by first | rfl | go_num, HA4.out, HB4.out⟩
          case measure => simp [intOf]
        · have hl2 : (s == ly) = false := beq_eq_false_iff_ne.2 hl
          have hl3 : (B.toList == C.toList) = false := beq_eq_false_iff_ne.2 fun z => hl (SM.out.1 (toList_inj z))
          go_wp2_with fail
          refine (CX.out _).mono ?_
          rintro e w4 ⟨rfl, hb3⟩
          have hB3 := HB2.out.trans (hb3.mono HB2.out.size)
          have hA3 := HA2.out.below hb3 (by have := HA2.out.lt; omega)
          go_wp2_with fail
          refine (CY.out _).mono ?_
          rintro e w5 ⟨rfl, hb4⟩
          have hB4 := hB3.trans (hb4.mono hB3.size)
          have hA4 := hA3.below hb4 (by have := hA3.lt; omega)
          clear hb3 hb4 hB3 hA3
          have HB4 := hide hB4
          have HA4 := hide hA4
          clear hB4 hA4
          go_wp2_with fail
          refine (CL.out _).mono ?_
          rintro e w6 ⟨rfl, rfl⟩
          go_wp2_with fail
          go_roundw
          case rel => exact ⟨4, by omega, by first | rfl | go_num, HA4.out, HB4.out⟩
          case measure => simp [intOf]
      · subst p2
        have q1 : ((s + 18446744073709551616) / 9223372036854775808 == 0) = false := by rw [beq_eq_false_iff_ne]; omega
        have q3 : True := trivial
        by_cases hl : s + 18446744073709551616 = ly
        · subst hl
          obtain rfl : B = C := SM.out.2 rfl
          go_wp2_with fail
          refine (CX.out _).mono ?_
          rintro e w4 ⟨rfl, hb3⟩
          have hB3 := HB2.out.trans (hb3.mono HB2.out.size)
          have hA3 := HA2.out.below hb3 (by have := HA2.out.lt; omega)
          go_wp2_with fail
          refine (CY.out _).mono ?_
          rintro e w5 ⟨rfl, hb4⟩
          have hB4 := hB3.trans (hb4.mono hB3.size)
          have hA4 := hA3.below hb4 (by have := hA3.lt; omega)
          clear hb3 hb4 hB3 hA3
          have HB4 := hide hB4
          have HA4 := hide hA4
          clear hB4 hA4
          go_wp2_with fail
          refine (CL.out _).mono ?_
          rintro e w6 ⟨rfl, rfl⟩
          go_wp2_with fail
          go_roundw
          case rel => exact ⟨4, by omega, by first | rfl | go_num, HA4.out, HB4.out⟩
          case measure => simp [intOf]
        · have hl2 : (s + 18446744073709551616 == ly) = false := beq_eq_false_iff_ne.2 hl
          have hl3 : (B.toList == C.toList) = false := beq_eq_false_iff_ne.2 fun z => hl (SM.out.1 (toList_inj z))
          go_wp2_with fail
          refine (CX.out _).mono ?_
          rintro e w4 ⟨rfl, hb3⟩
          have hB3 := HB2.out.trans (hb3.mono HB2.out.size)
          have hA3 := HA2.out.below hb3 (by have := HA2.out.lt; omega)
          go_wp2_with fail
          refine (CY.out _).mono ?_
          rintro e w5 ⟨rfl, hb4⟩
          have hB4 := hB3.trans (hb4.mono hB3.size)
          have hA4 := hA3.below hb4 (by have := hA3.lt; omega)
          clear hb3 hb4 hB3 hA3
          have HB4 := hide hB4
          have HA4 := hide hA4
          clear hB4 hA4
          go_wp2_with fail
          refine (CL.out _).mono ?_
          rintro e w6 ⟨rfl, rfl⟩
          go_wp2_with fail
          go_roundw
          case rel => exact ⟨4, by omega, by first | rfl | go_num, HA4.out, HB4.out⟩
          case measure => simp [intOf]
    · have s8 : (wordOf x 8).size = 8 := by have := wordOf_size_eq x 8 (by decide); omega
      have s4 : (wordOf x 4).size = 4 := by have := wordOf_size_eq x 4 (by decide); omega
      have e4 : (wordOf x 8).extract 0 4 = wordOf x 4 := strOfNums_take (wordNums x 8) 4
      have e2 : (wordOf x 4).extract 0 2 = wordOf x 2 := strOfNums_take (wordNums x 4) 2
      have C8 := hide (fun w => word_of x 8 h0.1 h0.2 w)
      have C4 := hide (fun w => word_of x 4 h0.1 h0.2 w)
      have C2 := hide (fun w => word_of x 2 h0.1 h0.2 w)
      have C0 := hide (fun w => word_of x 0 h0.1 h0.2 w)
      have CL := hide (fun w => word_low x 3 h0.1 h0.2 w)
      rw [show wordOf x 0 = ⟨#[]⟩ from rfl] at C0
      rw [show wordLow x 3 = 0 from rfl] at CL
      generalize wordOf x 8 = A at *
      generalize wordOf x 4 = B at *
      generalize wordOf x 2 = C at *
      have HB1 := hide hB
      clear hA hB hHA hHB e0 e1 e3 h0 h1
      go_wp2_with fail
      refine (C8.out _).mono ?_
      rintro e w2 ⟨rfl, hb1⟩
      have hB1 := HB1.out.trans (hb1.mono HB1.out.size)
      go_wp2_with fail
      refine (C4.out _).mono ?_
      rintro e w3 ⟨rfl, hb2⟩
      have hB2 := hB1.trans (hb2.mono hB1.size)
      have HB2 := hide (Below.drew hB2)
      clear hb1 hb2 hB1 hB2
      go_wp2_with fail
      go_region_held3 (fun _ => True) (trivial)
        (first
          | (go_at_call 26; refine (CL.out _).mono ?_; rintro e w5 ⟨rfl, rfl⟩)
          | (go_at_call 19; refine (word_alive _).mono ?_; rintro e w7 ⟨rfl, hb7⟩)
          | (go_at_call_of 24 (Value.int IntKind.i64 2); refine (C2.out _).mono ?_; rintro e w4 ⟨rfl, hb4⟩)
          | (go_at_call_of 24 (Value.int IntKind.i64 0); refine (C0.out _).mono ?_; rintro e w6 ⟨rfl, hb6⟩))
      go_wp2_with fail
      go_ret
      have hB4 := HB2.out.trans (hb4.mono HB2.out.size)
      have hB6 := hB4.trans (hb6.mono hB4.size)
      exact ⟨rfl, hB6.trans (hb7.mono hB6.size)⟩

end Go.Proofs.Ytjhfhognacjipaa
