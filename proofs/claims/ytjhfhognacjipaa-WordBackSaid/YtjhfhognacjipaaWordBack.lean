import Derived.Test.YtjhfhognacjipaaWordSigns
/-! The law WordBack, walked. Written by gen03.py. -/
namespace Go.Proofs.Ytjhfhognacjipaa
open Go.RowKit
set_option maxHeartbeats 16000000
set_option maxRecDepth 100000
set_option linter.unusedVariables false

theorem word_back_walk (w : World) (s : ByteArray) (hs0 : s.size ≤ maxLen) (i : Int) (wi : (Lit.int .i64 i).wf = true) (x : Int) (wx : (Lit.int .u64 x).wf = true) :
    Calls Try.prog 9 #[.string s, .int .i64 i, .int .u64 x] w fun e w' => e = .returned (.bool true) ∧ Below w.heap.size w w' := by
  have h0 := wf_u64 wx
  have hi := wf_i64 wi
  clear wx wi
  have H0 := hide h0
  clear h0
  by_cases hbig : 4096 < s.size
  · have hd : decide ((4096 : Int) < s.size) = true := by simp; omega
    clear hs0
    go_enter Try.func9, Try.ntmps9
    go_wp2_with fail
    refine (word_alive _).mono ?_
    rintro e w1 ⟨rfl, hb⟩
    go_wp2_with fail
    go_ret
    exact ⟨rfl, hb⟩
  have hs : s.size ≤ 4096 := by omega
  have hd : decide ((4096 : Int) < s.size) = false := by simp; omega
  clear hs0 hbig
  go_enter Try.func9, Try.ntmps9
  go_wp2_with fail
  refine (word_sizes _).mono ?_
  rintro e w1 ⟨rfl, hw1⟩
  have hA : Has w1 w.heap.size 3 #[.int .i64 1, .int .i64 2, .int .i64 4, .int .i64 8] := by rw [hw1]; exact Has.new _ _ _
  have hB : Below w.heap.size w w1 := by rw [hw1]; exact (Below.refl _ w).alloc (Nat.le_refl _) _
  have HHA := hide hA
  have HHB := hide hB
  clear hw1 hA hB
  go_wp2_with fail
  go_loopw [8] (fun v5 wr => SignsRel w v5 wr) (fun i _ => 4 - (intOf i).toNat)
  case atStart => exact ⟨0, by omega, rfl, HHA.out, HHB.out⟩
  case round =>
    obtain ⟨k, hk, rfl, hA, hB⟩ := hrel
    clear HHA HHB
    have HA := hide hA
    have HB := hide hB
    have e0 := hA.cell 0
    have e1 := hA.cell 1
    have e2 := hA.cell 2
    have e3 := hA.cell 3
    simp at e0 e1 e2 e3
    clear hA hB
    have h0 := H0.out
    have hk2 : k = 0 ∨ k = 1 ∨ k = 2 ∨ k = 3 ∨ k = 4 := by omega
    rcases hk2 with rfl | rfl | rfl | rfl | rfl
    · have cS := fun w => word_set s i x 1 (by omega) h0.1 h0.2 w
      by_cases hok : (wordGet s i 1).2 = 0
      · obtain ⟨p1, p2, p3, _⟩ := wordGet_ok hok
        obtain ⟨k, rfl⟩ := Int.eq_ofNat_of_zero_le p1
        obtain ⟨a1, a2, a3, a4⟩ := set_parts s k x 1 hok h0.1 h0.2
        obtain ⟨a5, _, _, a6⟩ := set_ok s k x 1 hok
        rw [a5] at cS
        have cG := fun w => word_get (wordSet s k x 1).1 k 1 (by rw [a6]; omega) w
        rw [a4] at cG
        have a1 : (wordSet s k x 1).1.extract 0 k = s.extract 0 k := a1
        have a2 : (wordSet s k x 1).1.extract (k + 1) s.size = s.extract (k + 1) s.size := a2
        have a3 : (wordSet s k x 1).1.extract k (k + 1) = wordOf x 1 := a3
        have cL := fun w => word_low x 1 h0.1 h0.2 w
        have cO := fun w => word_of x 1 h0.1 h0.2 w
        generalize (wordSet s k x 1).1 = T at *
        generalize wordLow x 1 = low at *
        generalize wordOf x 1 = W at *
        have hk1 : (k : Int) ≤ s.size := p2
        have hk2 : (k : Int) + 1 ≤ s.size := by omega
        have hk3 : (1 : Int) ≤ (s.size : Int) - k := by omega
        have hk4 : (k : Int) ≤ (s.size : Int) - 1 := by omega
        have hk5 : IntKind.i64.wrap ((k : Int) + 1) = k + 1 := IntWalk.i64_in _ (by omega)
        have hk6 : IntKind.i64.wrap ((s.size : Int) - 1) = s.size - 1 := IntWalk.i64_in _ (by omega)
        have hk7 : (0 : Int) ≤ (k : Int) + 1 := by omega
        have hk8 : ((k : Int) + 1).toNat = k + 1 := by omega
        have hk9 : (0 : Int) ≤ (k : Int) := by omega
        have hkA : decide ((s.size : Int) - 1 < (k : Int)) = false := by simp; omega
        have hkC : (k : Int) ≤ (k : Int) + 1 := by omega
        have hkB : decide ((k : Int) < 0) = false := by simp
        have CS := hide cS
        have CG := hide cG
        have CL := hide cL
        have CO := hide cO
        clear cS cG cL cO p1 p2 p3 hok a4 a5 h0
        go_wp2_with fail
        refine (CS.out _).mono ?_
        rintro e w2 ⟨rfl, hb1⟩
        have HB2 := hide (HB.out.trans (hb1.mono HB.out.size))
        have HA2 := hide (HA.out.below hb1 (by have := HA.out.lt; omega))
        clear hb1
        go_wp2_with fail
        refine (CG.out _).mono ?_
        rintro e w3 ⟨rfl, rfl⟩
        go_wp2_with fail
        go_region_held3 (fun _ => True) (trivial)
          (first
            | (go_at_call 26; refine (CL.out _).mono ?_; rintro e w3 ⟨rfl, rfl⟩)
            | (go_at_call 24; refine (CO.out _).mono ?_; rintro e w4 ⟨rfl, hb4⟩))
        have HB4 := hide ((Below.drew HB2.out).trans (hb4.mono HB2.out.size))
        have HA4 := hide ((HA2.out.drew).below hb4 (by have := HA2.out.lt; exact this))
        clear hb4
        go_wp2_with fail
        go_roundw
        case rel => exact ⟨1, by omega, by first | rfl | go_num, HA4.out, HB4.out⟩
        case measure => simp [intOf]
      · have hbad : i < 0 ∨ (0 ≤ i ∧ (s.size : Int) < i) ∨ (0 ≤ i ∧ i ≤ s.size ∧ (s.size : Int) - i < 1) := by
          by_cases g1 : i < 0
          · exact .inl g1
          · by_cases g2 : i > s.size ∨ (1 : Int) > s.size - i
            · omega
            · exfalso
              apply hok
              unfold wordGet
              rw [if_neg (by omega), if_neg g2]
        rw [set_err] at cS
        generalize (wordSet s i x 1).1 = T at *
        generalize (wordGet s i 1).2 = er at *
        have he : (er == 0) = false := beq_eq_false_iff_ne.2 hok
        have CS := hide cS
        clear cS hok h0
        rcases hbad with b1 | ⟨b1, b2⟩ | ⟨b1, b2, b3⟩
        · have f1 : decide (0 ≤ i) = false := by simp; omega
          go_wp2_with fail
          refine (CS.out _).mono ?_
          rintro e w2 ⟨rfl, hb1⟩
          have HB2 := hide (HB.out.trans (hb1.mono HB.out.size))
          have HA2 := hide (HA.out.below hb1 (by have := HA.out.lt; omega))
          clear hb1
          go_wp2_with fail
          go_roundw
          case rel => exact ⟨1, by omega, by first | rfl | go_num, HA2.out, HB2.out⟩
          case measure => simp [intOf]
        · have f1 : decide (i ≤ (s.size : Int)) = false := by simp; omega
          go_wp2_with fail
          refine (CS.out _).mono ?_
          rintro e w2 ⟨rfl, hb1⟩
          have HB2 := hide (HB.out.trans (hb1.mono HB.out.size))
          have HA2 := hide (HA.out.below hb1 (by have := HA.out.lt; omega))
          clear hb1
          go_wp2_with fail
          go_roundw
          case rel => exact ⟨1, by omega, by first | rfl | go_num, HA2.out, HB2.out⟩
          case measure => simp [intOf]
        · have f1 : decide ((1 : Int) ≤ (s.size : Int) - i) = false := by simp; omega
          have f2 : IntKind.i64.wrap ((s.size : Int) - i) = s.size - i := IntWalk.i64_in _ (by omega)
          go_wp2_with fail
          refine (CS.out _).mono ?_
          rintro e w2 ⟨rfl, hb1⟩
          have HB2 := hide (HB.out.trans (hb1.mono HB.out.size))
          have HA2 := hide (HA.out.below hb1 (by have := HA.out.lt; omega))
          clear hb1
          go_wp2_with fail
          go_roundw
          case rel => exact ⟨1, by omega, by first | rfl | go_num, HA2.out, HB2.out⟩
          case measure => simp [intOf]
    · have cS := fun w => word_set s i x 2 (by omega) h0.1 h0.2 w
      by_cases hok : (wordGet s i 2).2 = 0
      · obtain ⟨p1, p2, p3, _⟩ := wordGet_ok hok
        obtain ⟨k, rfl⟩ := Int.eq_ofNat_of_zero_le p1
        obtain ⟨a1, a2, a3, a4⟩ := set_parts s k x 2 hok h0.1 h0.2
        obtain ⟨a5, _, _, a6⟩ := set_ok s k x 2 hok
        rw [a5] at cS
        have cG := fun w => word_get (wordSet s k x 2).1 k 2 (by rw [a6]; omega) w
        rw [a4] at cG
        have a1 : (wordSet s k x 2).1.extract 0 k = s.extract 0 k := a1
        have a2 : (wordSet s k x 2).1.extract (k + 2) s.size = s.extract (k + 2) s.size := a2
        have a3 : (wordSet s k x 2).1.extract k (k + 2) = wordOf x 2 := a3
        have cL := fun w => word_low x 2 h0.1 h0.2 w
        have cO := fun w => word_of x 2 h0.1 h0.2 w
        generalize (wordSet s k x 2).1 = T at *
        generalize wordLow x 2 = low at *
        generalize wordOf x 2 = W at *
        have hk1 : (k : Int) ≤ s.size := p2
        have hk2 : (k : Int) + 2 ≤ s.size := by omega
        have hk3 : (2 : Int) ≤ (s.size : Int) - k := by omega
        have hk4 : (k : Int) ≤ (s.size : Int) - 2 := by omega
        have hk5 : IntKind.i64.wrap ((k : Int) + 2) = k + 2 := IntWalk.i64_in _ (by omega)
        have hk6 : IntKind.i64.wrap ((s.size : Int) - 2) = s.size - 2 := IntWalk.i64_in _ (by omega)
        have hk7 : (0 : Int) ≤ (k : Int) + 2 := by omega
        have hk8 : ((k : Int) + 2).toNat = k + 2 := by omega
        have hk9 : (0 : Int) ≤ (k : Int) := by omega
        have hkA : decide ((s.size : Int) - 2 < (k : Int)) = false := by simp; omega
        have hkC : (k : Int) ≤ (k : Int) + 2 := by omega
        have hkB : decide ((k : Int) < 0) = false := by simp
        have CS := hide cS
        have CG := hide cG
        have CL := hide cL
        have CO := hide cO
        clear cS cG cL cO p1 p2 p3 hok a4 a5 h0
        go_wp2_with fail
        refine (CS.out _).mono ?_
        rintro e w2 ⟨rfl, hb1⟩
        have HB2 := hide (HB.out.trans (hb1.mono HB.out.size))
        have HA2 := hide (HA.out.below hb1 (by have := HA.out.lt; omega))
        clear hb1
        go_wp2_with fail
        refine (CG.out _).mono ?_
        rintro e w3 ⟨rfl, rfl⟩
        go_wp2_with fail
        go_region_held3 (fun _ => True) (trivial)
          (first
            | (go_at_call 26; refine (CL.out _).mono ?_; rintro e w3 ⟨rfl, rfl⟩)
            | (go_at_call 24; refine (CO.out _).mono ?_; rintro e w4 ⟨rfl, hb4⟩))
        have HB4 := hide ((Below.drew HB2.out).trans (hb4.mono HB2.out.size))
        have HA4 := hide ((HA2.out.drew).below hb4 (by have := HA2.out.lt; exact this))
        clear hb4
        go_wp2_with fail
        go_roundw
        case rel => exact ⟨2, by omega, by first | rfl | go_num, HA4.out, HB4.out⟩
        case measure => simp [intOf]
      · have hbad : i < 0 ∨ (0 ≤ i ∧ (s.size : Int) < i) ∨ (0 ≤ i ∧ i ≤ s.size ∧ (s.size : Int) - i < 2) := by
          by_cases g1 : i < 0
          · exact .inl g1
          · by_cases g2 : i > s.size ∨ (2 : Int) > s.size - i
            · omega
            · exfalso
              apply hok
              unfold wordGet
              rw [if_neg (by omega), if_neg g2]
        rw [set_err] at cS
        generalize (wordSet s i x 2).1 = T at *
        generalize (wordGet s i 2).2 = er at *
        have he : (er == 0) = false := beq_eq_false_iff_ne.2 hok
        have CS := hide cS
        clear cS hok h0
        rcases hbad with b1 | ⟨b1, b2⟩ | ⟨b1, b2, b3⟩
        · have f1 : decide (0 ≤ i) = false := by simp; omega
          go_wp2_with fail
          refine (CS.out _).mono ?_
          rintro e w2 ⟨rfl, hb1⟩
          have HB2 := hide (HB.out.trans (hb1.mono HB.out.size))
          have HA2 := hide (HA.out.below hb1 (by have := HA.out.lt; omega))
          clear hb1
          go_wp2_with fail
          go_roundw
          case rel => exact ⟨2, by omega, by first | rfl | go_num, HA2.out, HB2.out⟩
          case measure => simp [intOf]
        · have f1 : decide (i ≤ (s.size : Int)) = false := by simp; omega
          go_wp2_with fail
          refine (CS.out _).mono ?_
          rintro e w2 ⟨rfl, hb1⟩
          have HB2 := hide (HB.out.trans (hb1.mono HB.out.size))
          have HA2 := hide (HA.out.below hb1 (by have := HA.out.lt; omega))
          clear hb1
          go_wp2_with fail
          go_roundw
          case rel => exact ⟨2, by omega, by first | rfl | go_num, HA2.out, HB2.out⟩
          case measure => simp [intOf]
        · have f1 : decide ((2 : Int) ≤ (s.size : Int) - i) = false := by simp; omega
          have f2 : IntKind.i64.wrap ((s.size : Int) - i) = s.size - i := IntWalk.i64_in _ (by omega)
          go_wp2_with fail
          refine (CS.out _).mono ?_
          rintro e w2 ⟨rfl, hb1⟩
          have HB2 := hide (HB.out.trans (hb1.mono HB.out.size))
          have HA2 := hide (HA.out.below hb1 (by have := HA.out.lt; omega))
          clear hb1
          go_wp2_with fail
          go_roundw
          case rel => exact ⟨2, by omega, by first | rfl | go_num, HA2.out, HB2.out⟩
          case measure => simp [intOf]
    · have cS := fun w => word_set s i x 4 (by omega) h0.1 h0.2 w
      by_cases hok : (wordGet s i 4).2 = 0
      · obtain ⟨p1, p2, p3, _⟩ := wordGet_ok hok
        obtain ⟨k, rfl⟩ := Int.eq_ofNat_of_zero_le p1
        obtain ⟨a1, a2, a3, a4⟩ := set_parts s k x 4 hok h0.1 h0.2
        obtain ⟨a5, _, _, a6⟩ := set_ok s k x 4 hok
        rw [a5] at cS
        have cG := fun w => word_get (wordSet s k x 4).1 k 4 (by rw [a6]; omega) w
        rw [a4] at cG
        have a1 : (wordSet s k x 4).1.extract 0 k = s.extract 0 k := a1
        have a2 : (wordSet s k x 4).1.extract (k + 4) s.size = s.extract (k + 4) s.size := a2
        have a3 : (wordSet s k x 4).1.extract k (k + 4) = wordOf x 4 := a3
        have cL := fun w => word_low x 4 h0.1 h0.2 w
        have cO := fun w => word_of x 4 h0.1 h0.2 w
        generalize (wordSet s k x 4).1 = T at *
        generalize wordLow x 4 = low at *
        generalize wordOf x 4 = W at *
        have hk1 : (k : Int) ≤ s.size := p2
        have hk2 : (k : Int) + 4 ≤ s.size := by omega
        have hk3 : (4 : Int) ≤ (s.size : Int) - k := by omega
        have hk4 : (k : Int) ≤ (s.size : Int) - 4 := by omega
        have hk5 : IntKind.i64.wrap ((k : Int) + 4) = k + 4 := IntWalk.i64_in _ (by omega)
        have hk6 : IntKind.i64.wrap ((s.size : Int) - 4) = s.size - 4 := IntWalk.i64_in _ (by omega)
        have hk7 : (0 : Int) ≤ (k : Int) + 4 := by omega
        have hk8 : ((k : Int) + 4).toNat = k + 4 := by omega
        have hk9 : (0 : Int) ≤ (k : Int) := by omega
        have hkA : decide ((s.size : Int) - 4 < (k : Int)) = false := by simp; omega
        have hkC : (k : Int) ≤ (k : Int) + 4 := by omega
        have hkB : decide ((k : Int) < 0) = false := by simp
        have CS := hide cS
        have CG := hide cG
        have CL := hide cL
        have CO := hide cO
        clear cS cG cL cO p1 p2 p3 hok a4 a5 h0
        go_wp2_with fail
        refine (CS.out _).mono ?_
        rintro e w2 ⟨rfl, hb1⟩
        have HB2 := hide (HB.out.trans (hb1.mono HB.out.size))
        have HA2 := hide (HA.out.below hb1 (by have := HA.out.lt; omega))
        clear hb1
        go_wp2_with fail
        refine (CG.out _).mono ?_
        rintro e w3 ⟨rfl, rfl⟩
        go_wp2_with fail
        go_region_held3 (fun _ => True) (trivial)
          (first
            | (go_at_call 26; refine (CL.out _).mono ?_; rintro e w3 ⟨rfl, rfl⟩)
            | (go_at_call 24; refine (CO.out _).mono ?_; rintro e w4 ⟨rfl, hb4⟩))
        have HB4 := hide ((Below.drew HB2.out).trans (hb4.mono HB2.out.size))
        have HA4 := hide ((HA2.out.drew).below hb4 (by have := HA2.out.lt; exact this))
        clear hb4
        go_wp2_with fail
        go_roundw
        case rel => exact ⟨3, by omega, by first | rfl | go_num, HA4.out, HB4.out⟩
        case measure => simp [intOf]
      · have hbad : i < 0 ∨ (0 ≤ i ∧ (s.size : Int) < i) ∨ (0 ≤ i ∧ i ≤ s.size ∧ (s.size : Int) - i < 4) := by
          by_cases g1 : i < 0
          · exact .inl g1
          · by_cases g2 : i > s.size ∨ (4 : Int) > s.size - i
            · omega
            · exfalso
              apply hok
              unfold wordGet
              rw [if_neg (by omega), if_neg g2]
        rw [set_err] at cS
        generalize (wordSet s i x 4).1 = T at *
        generalize (wordGet s i 4).2 = er at *
        have he : (er == 0) = false := beq_eq_false_iff_ne.2 hok
        have CS := hide cS
        clear cS hok h0
        rcases hbad with b1 | ⟨b1, b2⟩ | ⟨b1, b2, b3⟩
        · have f1 : decide (0 ≤ i) = false := by simp; omega
          go_wp2_with fail
          refine (CS.out _).mono ?_
          rintro e w2 ⟨rfl, hb1⟩
          have HB2 := hide (HB.out.trans (hb1.mono HB.out.size))
          have HA2 := hide (HA.out.below hb1 (by have := HA.out.lt; omega))
          clear hb1
          go_wp2_with fail
          go_roundw
          case rel => exact ⟨3, by omega, by first | rfl | go_num, HA2.out, HB2.out⟩
          case measure => simp [intOf]
        · have f1 : decide (i ≤ (s.size : Int)) = false := by simp; omega
          go_wp2_with fail
          refine (CS.out _).mono ?_
          rintro e w2 ⟨rfl, hb1⟩
          have HB2 := hide (HB.out.trans (hb1.mono HB.out.size))
          have HA2 := hide (HA.out.below hb1 (by have := HA.out.lt; omega))
          clear hb1
          go_wp2_with fail
          go_roundw
          case rel => exact ⟨3, by omega, by first | rfl | go_num, HA2.out, HB2.out⟩
          case measure => simp [intOf]
        · have f1 : decide ((4 : Int) ≤ (s.size : Int) - i) = false := by simp; omega
          have f2 : IntKind.i64.wrap ((s.size : Int) - i) = s.size - i := IntWalk.i64_in _ (by omega)
          go_wp2_with fail
          refine (CS.out _).mono ?_
          rintro e w2 ⟨rfl, hb1⟩
          have HB2 := hide (HB.out.trans (hb1.mono HB.out.size))
          have HA2 := hide (HA.out.below hb1 (by have := HA.out.lt; omega))
          clear hb1
          go_wp2_with fail
          go_roundw
          case rel => exact ⟨3, by omega, by first | rfl | go_num, HA2.out, HB2.out⟩
          case measure => simp [intOf]
    · have cS := fun w => word_set s i x 8 (by omega) h0.1 h0.2 w
      by_cases hok : (wordGet s i 8).2 = 0
      · obtain ⟨p1, p2, p3, _⟩ := wordGet_ok hok
        obtain ⟨k, rfl⟩ := Int.eq_ofNat_of_zero_le p1
        obtain ⟨a1, a2, a3, a4⟩ := set_parts s k x 8 hok h0.1 h0.2
        obtain ⟨a5, _, _, a6⟩ := set_ok s k x 8 hok
        rw [a5] at cS
        have cG := fun w => word_get (wordSet s k x 8).1 k 8 (by rw [a6]; omega) w
        rw [a4] at cG
        have a1 : (wordSet s k x 8).1.extract 0 k = s.extract 0 k := a1
        have a2 : (wordSet s k x 8).1.extract (k + 8) s.size = s.extract (k + 8) s.size := a2
        have a3 : (wordSet s k x 8).1.extract k (k + 8) = wordOf x 8 := a3
        have cL := fun w => word_low x 8 h0.1 h0.2 w
        have cO := fun w => word_of x 8 h0.1 h0.2 w
        generalize (wordSet s k x 8).1 = T at *
        generalize wordLow x 8 = low at *
        generalize wordOf x 8 = W at *
        have hk1 : (k : Int) ≤ s.size := p2
        have hk2 : (k : Int) + 8 ≤ s.size := by omega
        have hk3 : (8 : Int) ≤ (s.size : Int) - k := by omega
        have hk4 : (k : Int) ≤ (s.size : Int) - 8 := by omega
        have hk5 : IntKind.i64.wrap ((k : Int) + 8) = k + 8 := IntWalk.i64_in _ (by omega)
        have hk6 : IntKind.i64.wrap ((s.size : Int) - 8) = s.size - 8 := IntWalk.i64_in _ (by omega)
        have hk7 : (0 : Int) ≤ (k : Int) + 8 := by omega
        have hk8 : ((k : Int) + 8).toNat = k + 8 := by omega
        have hk9 : (0 : Int) ≤ (k : Int) := by omega
        have hkA : decide ((s.size : Int) - 8 < (k : Int)) = false := by simp; omega
        have hkC : (k : Int) ≤ (k : Int) + 8 := by omega
        have hkB : decide ((k : Int) < 0) = false := by simp
        have CS := hide cS
        have CG := hide cG
        have CL := hide cL
        have CO := hide cO
        clear cS cG cL cO p1 p2 p3 hok a4 a5 h0
        go_wp2_with fail
        refine (CS.out _).mono ?_
        rintro e w2 ⟨rfl, hb1⟩
        have HB2 := hide (HB.out.trans (hb1.mono HB.out.size))
        have HA2 := hide (HA.out.below hb1 (by have := HA.out.lt; omega))
        clear hb1
        go_wp2_with fail
        refine (CG.out _).mono ?_
        rintro e w3 ⟨rfl, rfl⟩
        go_wp2_with fail
        go_region_held3 (fun _ => True) (trivial)
          (first
            | (go_at_call 26; refine (CL.out _).mono ?_; rintro e w3 ⟨rfl, rfl⟩)
            | (go_at_call 24; refine (CO.out _).mono ?_; rintro e w4 ⟨rfl, hb4⟩))
        have HB4 := hide ((Below.drew HB2.out).trans (hb4.mono HB2.out.size))
        have HA4 := hide ((HA2.out.drew).below hb4 (by have := HA2.out.lt; exact this))
        clear hb4
        go_wp2_with fail
        go_roundw
        case rel => exact ⟨4, by omega, by first | rfl | go_num, HA4.out, HB4.out⟩
        case measure => simp [intOf]
      · have hbad : i < 0 ∨ (0 ≤ i ∧ (s.size : Int) < i) ∨ (0 ≤ i ∧ i ≤ s.size ∧ (s.size : Int) - i < 8) := by
          by_cases g1 : i < 0
          · exact .inl g1
          · by_cases g2 : i > s.size ∨ (8 : Int) > s.size - i
            · omega
            · exfalso
              apply hok
              unfold wordGet
              rw [if_neg (by omega), if_neg g2]
        rw [set_err] at cS
        generalize (wordSet s i x 8).1 = T at *
        generalize (wordGet s i 8).2 = er at *
        have he : (er == 0) = false := beq_eq_false_iff_ne.2 hok
        have CS := hide cS
        clear cS hok h0
        rcases hbad with b1 | ⟨b1, b2⟩ | ⟨b1, b2, b3⟩
        · have f1 : decide (0 ≤ i) = false := by simp; omega
          go_wp2_with fail
          refine (CS.out _).mono ?_
          rintro e w2 ⟨rfl, hb1⟩
          have HB2 := hide (HB.out.trans (hb1.mono HB.out.size))
          have HA2 := hide (HA.out.below hb1 (by have := HA.out.lt; omega))
          clear hb1
          go_wp2_with fail
          go_roundw
          case rel => exact ⟨4, by omega, by first | rfl | go_num, HA2.out, HB2.out⟩
          case measure => simp [intOf]
        · have f1 : decide (i ≤ (s.size : Int)) = false := by simp; omega
          go_wp2_with fail
          refine (CS.out _).mono ?_
          rintro e w2 ⟨rfl, hb1⟩
          have HB2 := hide (HB.out.trans (hb1.mono HB.out.size))
          have HA2 := hide (HA.out.below hb1 (by have := HA.out.lt; omega))
          clear hb1
          go_wp2_with fail
          go_roundw
          case rel => exact ⟨4, by omega, by first | rfl | go_num, HA2.out, HB2.out⟩
          case measure => simp [intOf]
        · have f1 : decide ((8 : Int) ≤ (s.size : Int) - i) = false := by simp; omega
          have f2 : IntKind.i64.wrap ((s.size : Int) - i) = s.size - i := IntWalk.i64_in _ (by omega)
          go_wp2_with fail
          refine (CS.out _).mono ?_
          rintro e w2 ⟨rfl, hb1⟩
          have HB2 := hide (HB.out.trans (hb1.mono HB.out.size))
          have HA2 := hide (HA.out.below hb1 (by have := HA.out.lt; omega))
          clear hb1
          go_wp2_with fail
          go_roundw
          case rel => exact ⟨4, by omega, by first | rfl | go_num, HA2.out, HB2.out⟩
          case measure => simp [intOf]
    · have CL := hide (fun w => word_low x 8 h0.1 h0.2 w)
      rw [show wordLow x 8 = x from by show x % 18446744073709551616 = x; omega] at CL
      clear h0
      go_wp2_with fail
      refine (CL.out _).mono ?_
      rintro e w2 ⟨rfl, rfl⟩
      go_wp2_with fail
      refine (word_alive _).mono ?_
      rintro e w2 ⟨rfl, hb⟩
      go_wp2_with fail
      go_ret
      exact ⟨rfl, HB.out.trans (hb.mono HB.out.size)⟩

end Go.Proofs.Ytjhfhognacjipaa
