import Derived.Test.YtdlgipoaimgbpaaAluPure
import Derived.Test.YtdlgipoaimgbpaaHAluShiftsx1
import Derived.Test.YtdlgipoaimgbpaaWf
/-! The law AluAsks, walked. -/
namespace Go.Proofs.Ytdlgipoaimgbpaa
open Go.RowKit
set_option maxHeartbeats 8000000
set_option maxRecDepth 100000

theorem and_comm_ (x y : Int) : bits .and .u64 x y = bits .and .u64 y x := by
  unfold bits
  simp only [BitVec.and_comm]

theorem turned_spec (c x y s t : Int) (h : (pairOf c turnedPairs).2 = true) :
    (askOf c x y s t).2 = 0 ∧ (askOf (pairOf c turnedPairs).1 y x t s).1 = (askOf c x y s t).1 ∧ (pairOf (pairOf c turnedPairs).1 turnedPairs).1 = c := by
  by_cases g : c = 1 ∨ c = 2 ∨ c = 3 ∨ c = 4 ∨ c = 5 ∨ c = 6 ∨ c = 7 ∨ c = 10 ∨ c = 11 ∨ c = 12 ∨ c = 13
  · rcases g with rfl | rfl | rfl | rfl | rfl | rfl | rfl | rfl | rfl | rfl | rfl
    all_goals refine ⟨rfl, ?_, rfl⟩
    · show (y == x) = (x == y)
      exact BEq.comm
    · rfl
    · rfl
    · show (bits .and .u64 y x != 0) = (bits .and .u64 x y != 0)
      rw [and_comm_]
    · show (y != x) = (x != y)
      exact bne_comm
    all_goals rfl
  · unfold turnedPairs at h
    simp only [pairOf] at h
    simp (disch := omega) only [if_neg] at h
    cases h

theorem other_spec (c x y s t : Int) (h : (pairOf c otherPairs).2 = true) :
    (askOf c x y s t).2 = 0 ∧ ((askOf (pairOf c otherPairs).1 x y s t).1 != (askOf c x y s t).1) = true ∧ (pairOf (pairOf c otherPairs).1 otherPairs).1 = c := by
  have hnd : ∀ p q : Int, (decide (p < q) != decide (q ≤ p)) = true := fun p q => by
    by_cases h : p < q
    · simp [h]
    · simp [h, Int.not_lt.1 h]
  have hnd2 : ∀ p q : Int, (decide (q ≤ p) != decide (p < q)) = true := fun p q => by rw [bne_comm]; exact hnd p q
  by_cases g : c = 1 ∨ c = 2 ∨ c = 3 ∨ c = 5 ∨ c = 6 ∨ c = 7 ∨ c = 10 ∨ c = 11 ∨ c = 12 ∨ c = 13
  · rcases g with rfl | rfl | rfl | rfl | rfl | rfl | rfl | rfl | rfl | rfl
    all_goals refine ⟨rfl, ?_, rfl⟩
    · show ((x != y) != (x == y)) = true
      cases h : x == y <;> simp [bne, h]
    · exact hnd2 y x
    · exact hnd x y
    · show ((x == y) != (x != y)) = true
      cases h : x == y <;> simp [bne, h]
    · exact hnd2 t s
    · exact hnd s t
    · exact hnd2 x y
    · exact hnd y x
    · exact hnd2 s t
    · exact hnd t s
  · unfold otherPairs at h
    simp only [pairOf] at h
    simp (disch := omega) only [if_neg] at h
    cases h

theorem bit_one (x : Int) (h0 : 0 ≤ x) (h1 : x < 18446744073709551616) : bits .and .u64 x 1 = x % 2 := by
  obtain ⟨k, rfl⟩ := Int.eq_ofNat_of_zero_le h0
  have h := (bits_nat k 1 (by omega) (by decide)).1
  have e : k &&& 1 = k % 2 := Nat.and_two_pow_sub_one_eq_mod k 1
  rw [e] at h
  exact h

def BoolPost_ (w : World) (e : Ending) (w' : World) : Prop := e = .returned (.bool true) ∧ Below w.heap.size w w'

theorem law_alive (w : World) : Calls Try.prog 12 #[] w fun e w' => e = .returned (.bool true) ∧ Below w.heap.size w w' :=
  HAluShifts.wardenlaw02_alive.calls true w (by decide +kernel)

/-- What is asked ahead, answered: eq, lt, gt, slt, sgt. -/
structure Asked (wide : Bool) (a b : Int) (E L G SL SG : Bool) : Prop where
  eq : ∀ w, Calls Try.prog 14 #[.int .u8 1, .bool wide, .int .u64 a, .int .u64 b] w (AsksPost w (E, 0))
  lt : ∀ w, Calls Try.prog 14 #[.int .u8 10, .bool wide, .int .u64 a, .int .u64 b] w (AsksPost w (L, 0))
  gt : ∀ w, Calls Try.prog 14 #[.int .u8 2, .bool wide, .int .u64 a, .int .u64 b] w (AsksPost w (G, 0))
  slt : ∀ w, Calls Try.prog 14 #[.int .u8 12, .bool wide, .int .u64 a, .int .u64 b] w (AsksPost w (SL, 0))
  sgt : ∀ w, Calls Try.prog 14 #[.int .u8 6, .bool wide, .int .u64 a, .int .u64 b] w (AsksPost w (SG, 0))

/-- What is asked behind. -/
inductive Behind (c : Int) (wide : Bool) (a b : Int) : Prop
  | both (X : Bool) (t o : Int) : (∀ w, Calls Try.prog 14 #[.int .u8 c, .bool wide, .int .u64 a, .int .u64 b] w (AsksPost w (X, 0))) →
      (∀ w, Calls Try.prog 27 #[.int .u8 c] w (PairPost w (t, true))) → (∀ w, Calls Try.prog 29 #[.int .u8 c] w (PairPost w (o, true))) →
      (∀ w, Calls Try.prog 14 #[.int .u8 t, .bool wide, .int .u64 b, .int .u64 a] w (AsksPost w (X, 0))) → (∀ w, Calls Try.prog 27 #[.int .u8 t] w (PairPost w (c, true))) →
      (∀ w, Calls Try.prog 14 #[.int .u8 o, .bool wide, .int .u64 a, .int .u64 b] w (AsksPost w (!X, 0))) → (∀ w, Calls Try.prog 29 #[.int .u8 o] w (PairPost w (c, true))) → Behind c wide a b
  | one (X : Bool) (t o : Int) : (∀ w, Calls Try.prog 14 #[.int .u8 c, .bool wide, .int .u64 a, .int .u64 b] w (AsksPost w (X, 0))) →
      (∀ w, Calls Try.prog 27 #[.int .u8 c] w (PairPost w (t, true))) → (∀ w, Calls Try.prog 29 #[.int .u8 c] w (PairPost w (o, false))) →
      (∀ w, Calls Try.prog 14 #[.int .u8 t, .bool wide, .int .u64 b, .int .u64 a] w (AsksPost w (X, 0))) → (∀ w, Calls Try.prog 27 #[.int .u8 t] w (PairPost w (c, true))) → Behind c wide a b
  | none (X : Bool) (q t o : Int) : (∀ w, Calls Try.prog 14 #[.int .u8 c, .bool wide, .int .u64 a, .int .u64 b] w (AsksPost w (X, q))) →
      (∀ w, Calls Try.prog 27 #[.int .u8 c] w (PairPost w (t, false))) → (∀ w, Calls Try.prog 29 #[.int .u8 c] w (PairPost w (o, false))) → Behind c wide a b

theorem asks_eq_true (w : World) (c : Int) (a b : Int) (a0 : 0 ≤ a) (b0 : 0 ≤ b) (A : Asked true a b true false false false false) (hB : Behind c true a b)
    (hbit : (bits .and .u64 (a / 9223372036854775808) 1 == bits .and .u64 (b / 9223372036854775808) 1) = true) :
    Calls Try.prog 10 #[.int .u8 c, .bool true, .int .u64 a, .int .u64 b] w (BoolPost_ w) := by
  have d1 : 0 ≤ a / 9223372036854775808 := Int.ediv_nonneg a0 (by decide)
  have d2 : 0 ≤ b / 9223372036854775808 := Int.ediv_nonneg b0 (by decide)
  have hb2 : (bits .and .u64 (a / 9223372036854775808) 1 != bits .and .u64 (b / 9223372036854775808) 1) = false := by rw [bne, hbit]; rfl
  have HA := hide A
  have HBB := hide hB
  clear A hB
  go_enter Try.func10, Try.ntmps10
  go_wp2_with fail
  refine (HA.out.eq _).mono ?_
  rintro e w1 ⟨rfl, hb⟩
  have B1 := hide hb
  clear hb
  go_wp2_with fail
  refine (HA.out.lt _).mono ?_
  rintro e w2 ⟨rfl, hb⟩
  have B2 := hide (B1.out.trans (hb.mono B1.out.size))
  clear hb
  go_wp2_with fail
  refine (HA.out.gt _).mono ?_
  rintro e w3 ⟨rfl, hb⟩
  have B3 := hide (B2.out.trans (hb.mono B2.out.size))
  clear hb
  go_wp2_with fail
  refine (HA.out.slt _).mono ?_
  rintro e w4 ⟨rfl, hb⟩
  have B4 := hide (B3.out.trans (hb.mono B3.out.size))
  clear hb
  go_wp2_with fail
  refine (HA.out.sgt _).mono ?_
  rintro e w5 ⟨rfl, hb⟩
  have B5 := hide (B4.out.trans (hb.mono B4.out.size))
  clear hb
  rcases HBB.out with ⟨X, t, o, g1, g2, g3, g4, g5, g6, g7⟩ | ⟨X, t, o, g1, g2, g3, g4, g5⟩ | ⟨X, q, t, o, g1, g2, g3⟩
  · have G1 := hide g1
    have G2 := hide g2
    have G3 := hide g3
    have G4 := hide g4
    have G5 := hide g5
    have G6 := hide g6
    have G7 := hide g7
    clear g1 g2 g3 g4 g5 g6 g7 HBB
    go_wp2_with fail
    refine (G1.out _).mono ?_
    rintro e w6 ⟨rfl, hb⟩
    have B6 := hide (B5.out.trans (hb.mono B5.out.size))
    clear hb
    go_wp2_with fail
    refine (G2.out _).mono ?_
    rintro e w7 ⟨rfl, hb⟩
    have B7 := hide (B6.out.trans (hb.mono B6.out.size))
    clear hb
    go_wp2_with fail
    refine (G3.out _).mono ?_
    rintro e w8 ⟨rfl, hb⟩
    have B8 := hide (B7.out.trans (hb.mono B7.out.size))
    clear hb
    go_wp2_with fail
    refine (G4.out _).mono ?_
    rintro e w9 ⟨rfl, hb⟩
    have B9 := hide (B8.out.trans (hb.mono B8.out.size))
    clear hb
    go_wp2_with fail
    refine (G5.out _).mono ?_
    rintro e w10 ⟨rfl, hb⟩
    have B10 := hide (B9.out.trans (hb.mono B9.out.size))
    clear hb
    go_wp2_with fail
    refine (G6.out _).mono ?_
    rintro e w11 ⟨rfl, hb⟩
    have B11 := hide (B10.out.trans (hb.mono B10.out.size))
    clear hb
    go_wp2_with fail
    refine (G7.out _).mono ?_
    rintro e w12 ⟨rfl, hb⟩
    have B12 := hide (B11.out.trans (hb.mono B11.out.size))
    clear hb
    go_wp2_with fail
    refine (law_alive _).mono ?_
    rintro e w13 ⟨rfl, hb⟩
    have B13 := hide (B12.out.trans (hb.mono B12.out.size))
    clear hb
    go_wp2_with fail
    go_ret
    exact ⟨rfl, B13.out⟩
  · have G1 := hide g1
    have G2 := hide g2
    have G3 := hide g3
    have G4 := hide g4
    have G5 := hide g5
    clear g1 g2 g3 g4 g5 HBB
    go_wp2_with fail
    refine (G1.out _).mono ?_
    rintro e w6 ⟨rfl, hb⟩
    have B6 := hide (B5.out.trans (hb.mono B5.out.size))
    clear hb
    go_wp2_with fail
    refine (G2.out _).mono ?_
    rintro e w7 ⟨rfl, hb⟩
    have B7 := hide (B6.out.trans (hb.mono B6.out.size))
    clear hb
    go_wp2_with fail
    refine (G3.out _).mono ?_
    rintro e w8 ⟨rfl, hb⟩
    have B8 := hide (B7.out.trans (hb.mono B7.out.size))
    clear hb
    go_wp2_with fail
    refine (G4.out _).mono ?_
    rintro e w9 ⟨rfl, hb⟩
    have B9 := hide (B8.out.trans (hb.mono B8.out.size))
    clear hb
    go_wp2_with fail
    refine (G5.out _).mono ?_
    rintro e w10 ⟨rfl, hb⟩
    have B10 := hide (B9.out.trans (hb.mono B9.out.size))
    clear hb
    go_wp2_with fail
    refine (law_alive _).mono ?_
    rintro e w11 ⟨rfl, hb⟩
    have B11 := hide (B10.out.trans (hb.mono B10.out.size))
    clear hb
    go_wp2_with fail
    go_ret
    exact ⟨rfl, B11.out⟩
  · have G1 := hide g1
    have G2 := hide g2
    have G3 := hide g3
    clear g1 g2 g3 HBB
    go_wp2_with fail
    refine (G1.out _).mono ?_
    rintro e w6 ⟨rfl, hb⟩
    have B6 := hide (B5.out.trans (hb.mono B5.out.size))
    clear hb
    go_wp2_with fail
    refine (G2.out _).mono ?_
    rintro e w7 ⟨rfl, hb⟩
    have B7 := hide (B6.out.trans (hb.mono B6.out.size))
    clear hb
    go_wp2_with fail
    refine (G3.out _).mono ?_
    rintro e w8 ⟨rfl, hb⟩
    have B8 := hide (B7.out.trans (hb.mono B7.out.size))
    clear hb
    go_wp2_with fail
    refine (law_alive _).mono ?_
    rintro e w9 ⟨rfl, hb⟩
    have B9 := hide (B8.out.trans (hb.mono B8.out.size))
    clear hb
    go_wp2_with fail
    go_ret
    exact ⟨rfl, B9.out⟩

theorem asks_eq_false (w : World) (c : Int) (a b : Int) (a0 : 0 ≤ a) (b0 : 0 ≤ b) (A : Asked false a b true false false false false) (hB : Behind c false a b)
    (hbit : (bits .and .u64 (a / 2147483648) 1 == bits .and .u64 (b / 2147483648) 1) = true) :
    Calls Try.prog 10 #[.int .u8 c, .bool false, .int .u64 a, .int .u64 b] w (BoolPost_ w) := by
  have d1 : 0 ≤ a / 2147483648 := Int.ediv_nonneg a0 (by decide)
  have d2 : 0 ≤ b / 2147483648 := Int.ediv_nonneg b0 (by decide)
  have hb2 : (bits .and .u64 (a / 2147483648) 1 != bits .and .u64 (b / 2147483648) 1) = false := by rw [bne, hbit]; rfl
  have HA := hide A
  have HBB := hide hB
  clear A hB
  go_enter Try.func10, Try.ntmps10
  go_wp2_with fail
  refine (HA.out.eq _).mono ?_
  rintro e w1 ⟨rfl, hb⟩
  have B1 := hide hb
  clear hb
  go_wp2_with fail
  refine (HA.out.lt _).mono ?_
  rintro e w2 ⟨rfl, hb⟩
  have B2 := hide (B1.out.trans (hb.mono B1.out.size))
  clear hb
  go_wp2_with fail
  refine (HA.out.gt _).mono ?_
  rintro e w3 ⟨rfl, hb⟩
  have B3 := hide (B2.out.trans (hb.mono B2.out.size))
  clear hb
  go_wp2_with fail
  refine (HA.out.slt _).mono ?_
  rintro e w4 ⟨rfl, hb⟩
  have B4 := hide (B3.out.trans (hb.mono B3.out.size))
  clear hb
  go_wp2_with fail
  refine (HA.out.sgt _).mono ?_
  rintro e w5 ⟨rfl, hb⟩
  have B5 := hide (B4.out.trans (hb.mono B4.out.size))
  clear hb
  rcases HBB.out with ⟨X, t, o, g1, g2, g3, g4, g5, g6, g7⟩ | ⟨X, t, o, g1, g2, g3, g4, g5⟩ | ⟨X, q, t, o, g1, g2, g3⟩
  · have G1 := hide g1
    have G2 := hide g2
    have G3 := hide g3
    have G4 := hide g4
    have G5 := hide g5
    have G6 := hide g6
    have G7 := hide g7
    clear g1 g2 g3 g4 g5 g6 g7 HBB
    go_wp2_with fail
    refine (G1.out _).mono ?_
    rintro e w6 ⟨rfl, hb⟩
    have B6 := hide (B5.out.trans (hb.mono B5.out.size))
    clear hb
    go_wp2_with fail
    refine (G2.out _).mono ?_
    rintro e w7 ⟨rfl, hb⟩
    have B7 := hide (B6.out.trans (hb.mono B6.out.size))
    clear hb
    go_wp2_with fail
    refine (G3.out _).mono ?_
    rintro e w8 ⟨rfl, hb⟩
    have B8 := hide (B7.out.trans (hb.mono B7.out.size))
    clear hb
    go_wp2_with fail
    refine (G4.out _).mono ?_
    rintro e w9 ⟨rfl, hb⟩
    have B9 := hide (B8.out.trans (hb.mono B8.out.size))
    clear hb
    go_wp2_with fail
    refine (G5.out _).mono ?_
    rintro e w10 ⟨rfl, hb⟩
    have B10 := hide (B9.out.trans (hb.mono B9.out.size))
    clear hb
    go_wp2_with fail
    refine (G6.out _).mono ?_
    rintro e w11 ⟨rfl, hb⟩
    have B11 := hide (B10.out.trans (hb.mono B10.out.size))
    clear hb
    go_wp2_with fail
    refine (G7.out _).mono ?_
    rintro e w12 ⟨rfl, hb⟩
    have B12 := hide (B11.out.trans (hb.mono B11.out.size))
    clear hb
    go_wp2_with fail
    refine (law_alive _).mono ?_
    rintro e w13 ⟨rfl, hb⟩
    have B13 := hide (B12.out.trans (hb.mono B12.out.size))
    clear hb
    go_wp2_with fail
    go_ret
    exact ⟨rfl, B13.out⟩
  · have G1 := hide g1
    have G2 := hide g2
    have G3 := hide g3
    have G4 := hide g4
    have G5 := hide g5
    clear g1 g2 g3 g4 g5 HBB
    go_wp2_with fail
    refine (G1.out _).mono ?_
    rintro e w6 ⟨rfl, hb⟩
    have B6 := hide (B5.out.trans (hb.mono B5.out.size))
    clear hb
    go_wp2_with fail
    refine (G2.out _).mono ?_
    rintro e w7 ⟨rfl, hb⟩
    have B7 := hide (B6.out.trans (hb.mono B6.out.size))
    clear hb
    go_wp2_with fail
    refine (G3.out _).mono ?_
    rintro e w8 ⟨rfl, hb⟩
    have B8 := hide (B7.out.trans (hb.mono B7.out.size))
    clear hb
    go_wp2_with fail
    refine (G4.out _).mono ?_
    rintro e w9 ⟨rfl, hb⟩
    have B9 := hide (B8.out.trans (hb.mono B8.out.size))
    clear hb
    go_wp2_with fail
    refine (G5.out _).mono ?_
    rintro e w10 ⟨rfl, hb⟩
    have B10 := hide (B9.out.trans (hb.mono B9.out.size))
    clear hb
    go_wp2_with fail
    refine (law_alive _).mono ?_
    rintro e w11 ⟨rfl, hb⟩
    have B11 := hide (B10.out.trans (hb.mono B10.out.size))
    clear hb
    go_wp2_with fail
    go_ret
    exact ⟨rfl, B11.out⟩
  · have G1 := hide g1
    have G2 := hide g2
    have G3 := hide g3
    clear g1 g2 g3 HBB
    go_wp2_with fail
    refine (G1.out _).mono ?_
    rintro e w6 ⟨rfl, hb⟩
    have B6 := hide (B5.out.trans (hb.mono B5.out.size))
    clear hb
    go_wp2_with fail
    refine (G2.out _).mono ?_
    rintro e w7 ⟨rfl, hb⟩
    have B7 := hide (B6.out.trans (hb.mono B6.out.size))
    clear hb
    go_wp2_with fail
    refine (G3.out _).mono ?_
    rintro e w8 ⟨rfl, hb⟩
    have B8 := hide (B7.out.trans (hb.mono B7.out.size))
    clear hb
    go_wp2_with fail
    refine (law_alive _).mono ?_
    rintro e w9 ⟨rfl, hb⟩
    have B9 := hide (B8.out.trans (hb.mono B8.out.size))
    clear hb
    go_wp2_with fail
    go_ret
    exact ⟨rfl, B9.out⟩

theorem asks_ll_true (w : World) (c : Int) (a b : Int) (a0 : 0 ≤ a) (b0 : 0 ≤ b) (A : Asked true a b false true false true false) (hB : Behind c true a b)
    (hbit : (bits .and .u64 (a / 9223372036854775808) 1 == bits .and .u64 (b / 9223372036854775808) 1) = true) :
    Calls Try.prog 10 #[.int .u8 c, .bool true, .int .u64 a, .int .u64 b] w (BoolPost_ w) := by
  have d1 : 0 ≤ a / 9223372036854775808 := Int.ediv_nonneg a0 (by decide)
  have d2 : 0 ≤ b / 9223372036854775808 := Int.ediv_nonneg b0 (by decide)
  have hb2 : (bits .and .u64 (a / 9223372036854775808) 1 != bits .and .u64 (b / 9223372036854775808) 1) = false := by rw [bne, hbit]; rfl
  have HA := hide A
  have HBB := hide hB
  clear A hB
  go_enter Try.func10, Try.ntmps10
  go_wp2_with fail
  refine (HA.out.eq _).mono ?_
  rintro e w1 ⟨rfl, hb⟩
  have B1 := hide hb
  clear hb
  go_wp2_with fail
  refine (HA.out.lt _).mono ?_
  rintro e w2 ⟨rfl, hb⟩
  have B2 := hide (B1.out.trans (hb.mono B1.out.size))
  clear hb
  go_wp2_with fail
  refine (HA.out.gt _).mono ?_
  rintro e w3 ⟨rfl, hb⟩
  have B3 := hide (B2.out.trans (hb.mono B2.out.size))
  clear hb
  go_wp2_with fail
  refine (HA.out.slt _).mono ?_
  rintro e w4 ⟨rfl, hb⟩
  have B4 := hide (B3.out.trans (hb.mono B3.out.size))
  clear hb
  go_wp2_with fail
  refine (HA.out.sgt _).mono ?_
  rintro e w5 ⟨rfl, hb⟩
  have B5 := hide (B4.out.trans (hb.mono B4.out.size))
  clear hb
  rcases HBB.out with ⟨X, t, o, g1, g2, g3, g4, g5, g6, g7⟩ | ⟨X, t, o, g1, g2, g3, g4, g5⟩ | ⟨X, q, t, o, g1, g2, g3⟩
  · have G1 := hide g1
    have G2 := hide g2
    have G3 := hide g3
    have G4 := hide g4
    have G5 := hide g5
    have G6 := hide g6
    have G7 := hide g7
    clear g1 g2 g3 g4 g5 g6 g7 HBB
    go_wp2_with fail
    refine (G1.out _).mono ?_
    rintro e w6 ⟨rfl, hb⟩
    have B6 := hide (B5.out.trans (hb.mono B5.out.size))
    clear hb
    go_wp2_with fail
    refine (G2.out _).mono ?_
    rintro e w7 ⟨rfl, hb⟩
    have B7 := hide (B6.out.trans (hb.mono B6.out.size))
    clear hb
    go_wp2_with fail
    refine (G3.out _).mono ?_
    rintro e w8 ⟨rfl, hb⟩
    have B8 := hide (B7.out.trans (hb.mono B7.out.size))
    clear hb
    go_wp2_with fail
    refine (G4.out _).mono ?_
    rintro e w9 ⟨rfl, hb⟩
    have B9 := hide (B8.out.trans (hb.mono B8.out.size))
    clear hb
    go_wp2_with fail
    refine (G5.out _).mono ?_
    rintro e w10 ⟨rfl, hb⟩
    have B10 := hide (B9.out.trans (hb.mono B9.out.size))
    clear hb
    go_wp2_with fail
    refine (G6.out _).mono ?_
    rintro e w11 ⟨rfl, hb⟩
    have B11 := hide (B10.out.trans (hb.mono B10.out.size))
    clear hb
    go_wp2_with fail
    refine (G7.out _).mono ?_
    rintro e w12 ⟨rfl, hb⟩
    have B12 := hide (B11.out.trans (hb.mono B11.out.size))
    clear hb
    go_wp2_with fail
    refine (law_alive _).mono ?_
    rintro e w13 ⟨rfl, hb⟩
    have B13 := hide (B12.out.trans (hb.mono B12.out.size))
    clear hb
    go_wp2_with fail
    go_ret
    exact ⟨rfl, B13.out⟩
  · have G1 := hide g1
    have G2 := hide g2
    have G3 := hide g3
    have G4 := hide g4
    have G5 := hide g5
    clear g1 g2 g3 g4 g5 HBB
    go_wp2_with fail
    refine (G1.out _).mono ?_
    rintro e w6 ⟨rfl, hb⟩
    have B6 := hide (B5.out.trans (hb.mono B5.out.size))
    clear hb
    go_wp2_with fail
    refine (G2.out _).mono ?_
    rintro e w7 ⟨rfl, hb⟩
    have B7 := hide (B6.out.trans (hb.mono B6.out.size))
    clear hb
    go_wp2_with fail
    refine (G3.out _).mono ?_
    rintro e w8 ⟨rfl, hb⟩
    have B8 := hide (B7.out.trans (hb.mono B7.out.size))
    clear hb
    go_wp2_with fail
    refine (G4.out _).mono ?_
    rintro e w9 ⟨rfl, hb⟩
    have B9 := hide (B8.out.trans (hb.mono B8.out.size))
    clear hb
    go_wp2_with fail
    refine (G5.out _).mono ?_
    rintro e w10 ⟨rfl, hb⟩
    have B10 := hide (B9.out.trans (hb.mono B9.out.size))
    clear hb
    go_wp2_with fail
    refine (law_alive _).mono ?_
    rintro e w11 ⟨rfl, hb⟩
    have B11 := hide (B10.out.trans (hb.mono B10.out.size))
    clear hb
    go_wp2_with fail
    go_ret
    exact ⟨rfl, B11.out⟩
  · have G1 := hide g1
    have G2 := hide g2
    have G3 := hide g3
    clear g1 g2 g3 HBB
    go_wp2_with fail
    refine (G1.out _).mono ?_
    rintro e w6 ⟨rfl, hb⟩
    have B6 := hide (B5.out.trans (hb.mono B5.out.size))
    clear hb
    go_wp2_with fail
    refine (G2.out _).mono ?_
    rintro e w7 ⟨rfl, hb⟩
    have B7 := hide (B6.out.trans (hb.mono B6.out.size))
    clear hb
    go_wp2_with fail
    refine (G3.out _).mono ?_
    rintro e w8 ⟨rfl, hb⟩
    have B8 := hide (B7.out.trans (hb.mono B7.out.size))
    clear hb
    go_wp2_with fail
    refine (law_alive _).mono ?_
    rintro e w9 ⟨rfl, hb⟩
    have B9 := hide (B8.out.trans (hb.mono B8.out.size))
    clear hb
    go_wp2_with fail
    go_ret
    exact ⟨rfl, B9.out⟩

theorem asks_ll_false (w : World) (c : Int) (a b : Int) (a0 : 0 ≤ a) (b0 : 0 ≤ b) (A : Asked false a b false true false true false) (hB : Behind c false a b)
    (hbit : (bits .and .u64 (a / 2147483648) 1 == bits .and .u64 (b / 2147483648) 1) = true) :
    Calls Try.prog 10 #[.int .u8 c, .bool false, .int .u64 a, .int .u64 b] w (BoolPost_ w) := by
  have d1 : 0 ≤ a / 2147483648 := Int.ediv_nonneg a0 (by decide)
  have d2 : 0 ≤ b / 2147483648 := Int.ediv_nonneg b0 (by decide)
  have hb2 : (bits .and .u64 (a / 2147483648) 1 != bits .and .u64 (b / 2147483648) 1) = false := by rw [bne, hbit]; rfl
  have HA := hide A
  have HBB := hide hB
  clear A hB
  go_enter Try.func10, Try.ntmps10
  go_wp2_with fail
  refine (HA.out.eq _).mono ?_
  rintro e w1 ⟨rfl, hb⟩
  have B1 := hide hb
  clear hb
  go_wp2_with fail
  refine (HA.out.lt _).mono ?_
  rintro e w2 ⟨rfl, hb⟩
  have B2 := hide (B1.out.trans (hb.mono B1.out.size))
  clear hb
  go_wp2_with fail
  refine (HA.out.gt _).mono ?_
  rintro e w3 ⟨rfl, hb⟩
  have B3 := hide (B2.out.trans (hb.mono B2.out.size))
  clear hb
  go_wp2_with fail
  refine (HA.out.slt _).mono ?_
  rintro e w4 ⟨rfl, hb⟩
  have B4 := hide (B3.out.trans (hb.mono B3.out.size))
  clear hb
  go_wp2_with fail
  refine (HA.out.sgt _).mono ?_
  rintro e w5 ⟨rfl, hb⟩
  have B5 := hide (B4.out.trans (hb.mono B4.out.size))
  clear hb
  rcases HBB.out with ⟨X, t, o, g1, g2, g3, g4, g5, g6, g7⟩ | ⟨X, t, o, g1, g2, g3, g4, g5⟩ | ⟨X, q, t, o, g1, g2, g3⟩
  · have G1 := hide g1
    have G2 := hide g2
    have G3 := hide g3
    have G4 := hide g4
    have G5 := hide g5
    have G6 := hide g6
    have G7 := hide g7
    clear g1 g2 g3 g4 g5 g6 g7 HBB
    go_wp2_with fail
    refine (G1.out _).mono ?_
    rintro e w6 ⟨rfl, hb⟩
    have B6 := hide (B5.out.trans (hb.mono B5.out.size))
    clear hb
    go_wp2_with fail
    refine (G2.out _).mono ?_
    rintro e w7 ⟨rfl, hb⟩
    have B7 := hide (B6.out.trans (hb.mono B6.out.size))
    clear hb
    go_wp2_with fail
    refine (G3.out _).mono ?_
    rintro e w8 ⟨rfl, hb⟩
    have B8 := hide (B7.out.trans (hb.mono B7.out.size))
    clear hb
    go_wp2_with fail
    refine (G4.out _).mono ?_
    rintro e w9 ⟨rfl, hb⟩
    have B9 := hide (B8.out.trans (hb.mono B8.out.size))
    clear hb
    go_wp2_with fail
    refine (G5.out _).mono ?_
    rintro e w10 ⟨rfl, hb⟩
    have B10 := hide (B9.out.trans (hb.mono B9.out.size))
    clear hb
    go_wp2_with fail
    refine (G6.out _).mono ?_
    rintro e w11 ⟨rfl, hb⟩
    have B11 := hide (B10.out.trans (hb.mono B10.out.size))
    clear hb
    go_wp2_with fail
    refine (G7.out _).mono ?_
    rintro e w12 ⟨rfl, hb⟩
    have B12 := hide (B11.out.trans (hb.mono B11.out.size))
    clear hb
    go_wp2_with fail
    refine (law_alive _).mono ?_
    rintro e w13 ⟨rfl, hb⟩
    have B13 := hide (B12.out.trans (hb.mono B12.out.size))
    clear hb
    go_wp2_with fail
    go_ret
    exact ⟨rfl, B13.out⟩
  · have G1 := hide g1
    have G2 := hide g2
    have G3 := hide g3
    have G4 := hide g4
    have G5 := hide g5
    clear g1 g2 g3 g4 g5 HBB
    go_wp2_with fail
    refine (G1.out _).mono ?_
    rintro e w6 ⟨rfl, hb⟩
    have B6 := hide (B5.out.trans (hb.mono B5.out.size))
    clear hb
    go_wp2_with fail
    refine (G2.out _).mono ?_
    rintro e w7 ⟨rfl, hb⟩
    have B7 := hide (B6.out.trans (hb.mono B6.out.size))
    clear hb
    go_wp2_with fail
    refine (G3.out _).mono ?_
    rintro e w8 ⟨rfl, hb⟩
    have B8 := hide (B7.out.trans (hb.mono B7.out.size))
    clear hb
    go_wp2_with fail
    refine (G4.out _).mono ?_
    rintro e w9 ⟨rfl, hb⟩
    have B9 := hide (B8.out.trans (hb.mono B8.out.size))
    clear hb
    go_wp2_with fail
    refine (G5.out _).mono ?_
    rintro e w10 ⟨rfl, hb⟩
    have B10 := hide (B9.out.trans (hb.mono B9.out.size))
    clear hb
    go_wp2_with fail
    refine (law_alive _).mono ?_
    rintro e w11 ⟨rfl, hb⟩
    have B11 := hide (B10.out.trans (hb.mono B10.out.size))
    clear hb
    go_wp2_with fail
    go_ret
    exact ⟨rfl, B11.out⟩
  · have G1 := hide g1
    have G2 := hide g2
    have G3 := hide g3
    clear g1 g2 g3 HBB
    go_wp2_with fail
    refine (G1.out _).mono ?_
    rintro e w6 ⟨rfl, hb⟩
    have B6 := hide (B5.out.trans (hb.mono B5.out.size))
    clear hb
    go_wp2_with fail
    refine (G2.out _).mono ?_
    rintro e w7 ⟨rfl, hb⟩
    have B7 := hide (B6.out.trans (hb.mono B6.out.size))
    clear hb
    go_wp2_with fail
    refine (G3.out _).mono ?_
    rintro e w8 ⟨rfl, hb⟩
    have B8 := hide (B7.out.trans (hb.mono B7.out.size))
    clear hb
    go_wp2_with fail
    refine (law_alive _).mono ?_
    rintro e w9 ⟨rfl, hb⟩
    have B9 := hide (B8.out.trans (hb.mono B8.out.size))
    clear hb
    go_wp2_with fail
    go_ret
    exact ⟨rfl, B9.out⟩

theorem asks_lg_true (w : World) (c : Int) (a b : Int) (a0 : 0 ≤ a) (b0 : 0 ≤ b) (A : Asked true a b false true false false true) (hB : Behind c true a b)
    (hbit : (bits .and .u64 (a / 9223372036854775808) 1 == bits .and .u64 (b / 9223372036854775808) 1) = false) :
    Calls Try.prog 10 #[.int .u8 c, .bool true, .int .u64 a, .int .u64 b] w (BoolPost_ w) := by
  have d1 : 0 ≤ a / 9223372036854775808 := Int.ediv_nonneg a0 (by decide)
  have d2 : 0 ≤ b / 9223372036854775808 := Int.ediv_nonneg b0 (by decide)
  have hb2 : (bits .and .u64 (a / 9223372036854775808) 1 != bits .and .u64 (b / 9223372036854775808) 1) = true := by rw [bne, hbit]; rfl
  have HA := hide A
  have HBB := hide hB
  clear A hB
  go_enter Try.func10, Try.ntmps10
  go_wp2_with fail
  refine (HA.out.eq _).mono ?_
  rintro e w1 ⟨rfl, hb⟩
  have B1 := hide hb
  clear hb
  go_wp2_with fail
  refine (HA.out.lt _).mono ?_
  rintro e w2 ⟨rfl, hb⟩
  have B2 := hide (B1.out.trans (hb.mono B1.out.size))
  clear hb
  go_wp2_with fail
  refine (HA.out.gt _).mono ?_
  rintro e w3 ⟨rfl, hb⟩
  have B3 := hide (B2.out.trans (hb.mono B2.out.size))
  clear hb
  go_wp2_with fail
  refine (HA.out.slt _).mono ?_
  rintro e w4 ⟨rfl, hb⟩
  have B4 := hide (B3.out.trans (hb.mono B3.out.size))
  clear hb
  go_wp2_with fail
  refine (HA.out.sgt _).mono ?_
  rintro e w5 ⟨rfl, hb⟩
  have B5 := hide (B4.out.trans (hb.mono B4.out.size))
  clear hb
  rcases HBB.out with ⟨X, t, o, g1, g2, g3, g4, g5, g6, g7⟩ | ⟨X, t, o, g1, g2, g3, g4, g5⟩ | ⟨X, q, t, o, g1, g2, g3⟩
  · have G1 := hide g1
    have G2 := hide g2
    have G3 := hide g3
    have G4 := hide g4
    have G5 := hide g5
    have G6 := hide g6
    have G7 := hide g7
    clear g1 g2 g3 g4 g5 g6 g7 HBB
    go_wp2_with fail
    refine (G1.out _).mono ?_
    rintro e w6 ⟨rfl, hb⟩
    have B6 := hide (B5.out.trans (hb.mono B5.out.size))
    clear hb
    go_wp2_with fail
    refine (G2.out _).mono ?_
    rintro e w7 ⟨rfl, hb⟩
    have B7 := hide (B6.out.trans (hb.mono B6.out.size))
    clear hb
    go_wp2_with fail
    refine (G3.out _).mono ?_
    rintro e w8 ⟨rfl, hb⟩
    have B8 := hide (B7.out.trans (hb.mono B7.out.size))
    clear hb
    go_wp2_with fail
    refine (G4.out _).mono ?_
    rintro e w9 ⟨rfl, hb⟩
    have B9 := hide (B8.out.trans (hb.mono B8.out.size))
    clear hb
    go_wp2_with fail
    refine (G5.out _).mono ?_
    rintro e w10 ⟨rfl, hb⟩
    have B10 := hide (B9.out.trans (hb.mono B9.out.size))
    clear hb
    go_wp2_with fail
    refine (G6.out _).mono ?_
    rintro e w11 ⟨rfl, hb⟩
    have B11 := hide (B10.out.trans (hb.mono B10.out.size))
    clear hb
    go_wp2_with fail
    refine (G7.out _).mono ?_
    rintro e w12 ⟨rfl, hb⟩
    have B12 := hide (B11.out.trans (hb.mono B11.out.size))
    clear hb
    go_wp2_with fail
    refine (law_alive _).mono ?_
    rintro e w13 ⟨rfl, hb⟩
    have B13 := hide (B12.out.trans (hb.mono B12.out.size))
    clear hb
    go_wp2_with fail
    go_ret
    exact ⟨rfl, B13.out⟩
  · have G1 := hide g1
    have G2 := hide g2
    have G3 := hide g3
    have G4 := hide g4
    have G5 := hide g5
    clear g1 g2 g3 g4 g5 HBB
    go_wp2_with fail
    refine (G1.out _).mono ?_
    rintro e w6 ⟨rfl, hb⟩
    have B6 := hide (B5.out.trans (hb.mono B5.out.size))
    clear hb
    go_wp2_with fail
    refine (G2.out _).mono ?_
    rintro e w7 ⟨rfl, hb⟩
    have B7 := hide (B6.out.trans (hb.mono B6.out.size))
    clear hb
    go_wp2_with fail
    refine (G3.out _).mono ?_
    rintro e w8 ⟨rfl, hb⟩
    have B8 := hide (B7.out.trans (hb.mono B7.out.size))
    clear hb
    go_wp2_with fail
    refine (G4.out _).mono ?_
    rintro e w9 ⟨rfl, hb⟩
    have B9 := hide (B8.out.trans (hb.mono B8.out.size))
    clear hb
    go_wp2_with fail
    refine (G5.out _).mono ?_
    rintro e w10 ⟨rfl, hb⟩
    have B10 := hide (B9.out.trans (hb.mono B9.out.size))
    clear hb
    go_wp2_with fail
    refine (law_alive _).mono ?_
    rintro e w11 ⟨rfl, hb⟩
    have B11 := hide (B10.out.trans (hb.mono B10.out.size))
    clear hb
    go_wp2_with fail
    go_ret
    exact ⟨rfl, B11.out⟩
  · have G1 := hide g1
    have G2 := hide g2
    have G3 := hide g3
    clear g1 g2 g3 HBB
    go_wp2_with fail
    refine (G1.out _).mono ?_
    rintro e w6 ⟨rfl, hb⟩
    have B6 := hide (B5.out.trans (hb.mono B5.out.size))
    clear hb
    go_wp2_with fail
    refine (G2.out _).mono ?_
    rintro e w7 ⟨rfl, hb⟩
    have B7 := hide (B6.out.trans (hb.mono B6.out.size))
    clear hb
    go_wp2_with fail
    refine (G3.out _).mono ?_
    rintro e w8 ⟨rfl, hb⟩
    have B8 := hide (B7.out.trans (hb.mono B7.out.size))
    clear hb
    go_wp2_with fail
    refine (law_alive _).mono ?_
    rintro e w9 ⟨rfl, hb⟩
    have B9 := hide (B8.out.trans (hb.mono B8.out.size))
    clear hb
    go_wp2_with fail
    go_ret
    exact ⟨rfl, B9.out⟩

theorem asks_lg_false (w : World) (c : Int) (a b : Int) (a0 : 0 ≤ a) (b0 : 0 ≤ b) (A : Asked false a b false true false false true) (hB : Behind c false a b)
    (hbit : (bits .and .u64 (a / 2147483648) 1 == bits .and .u64 (b / 2147483648) 1) = false) :
    Calls Try.prog 10 #[.int .u8 c, .bool false, .int .u64 a, .int .u64 b] w (BoolPost_ w) := by
  have d1 : 0 ≤ a / 2147483648 := Int.ediv_nonneg a0 (by decide)
  have d2 : 0 ≤ b / 2147483648 := Int.ediv_nonneg b0 (by decide)
  have hb2 : (bits .and .u64 (a / 2147483648) 1 != bits .and .u64 (b / 2147483648) 1) = true := by rw [bne, hbit]; rfl
  have HA := hide A
  have HBB := hide hB
  clear A hB
  go_enter Try.func10, Try.ntmps10
  go_wp2_with fail
  refine (HA.out.eq _).mono ?_
  rintro e w1 ⟨rfl, hb⟩
  have B1 := hide hb
  clear hb
  go_wp2_with fail
  refine (HA.out.lt _).mono ?_
  rintro e w2 ⟨rfl, hb⟩
  have B2 := hide (B1.out.trans (hb.mono B1.out.size))
  clear hb
  go_wp2_with fail
  refine (HA.out.gt _).mono ?_
  rintro e w3 ⟨rfl, hb⟩
  have B3 := hide (B2.out.trans (hb.mono B2.out.size))
  clear hb
  go_wp2_with fail
  refine (HA.out.slt _).mono ?_
  rintro e w4 ⟨rfl, hb⟩
  have B4 := hide (B3.out.trans (hb.mono B3.out.size))
  clear hb
  go_wp2_with fail
  refine (HA.out.sgt _).mono ?_
  rintro e w5 ⟨rfl, hb⟩
  have B5 := hide (B4.out.trans (hb.mono B4.out.size))
  clear hb
  rcases HBB.out with ⟨X, t, o, g1, g2, g3, g4, g5, g6, g7⟩ | ⟨X, t, o, g1, g2, g3, g4, g5⟩ | ⟨X, q, t, o, g1, g2, g3⟩
  · have G1 := hide g1
    have G2 := hide g2
    have G3 := hide g3
    have G4 := hide g4
    have G5 := hide g5
    have G6 := hide g6
    have G7 := hide g7
    clear g1 g2 g3 g4 g5 g6 g7 HBB
    go_wp2_with fail
    refine (G1.out _).mono ?_
    rintro e w6 ⟨rfl, hb⟩
    have B6 := hide (B5.out.trans (hb.mono B5.out.size))
    clear hb
    go_wp2_with fail
    refine (G2.out _).mono ?_
    rintro e w7 ⟨rfl, hb⟩
    have B7 := hide (B6.out.trans (hb.mono B6.out.size))
    clear hb
    go_wp2_with fail
    refine (G3.out _).mono ?_
    rintro e w8 ⟨rfl, hb⟩
    have B8 := hide (B7.out.trans (hb.mono B7.out.size))
    clear hb
    go_wp2_with fail
    refine (G4.out _).mono ?_
    rintro e w9 ⟨rfl, hb⟩
    have B9 := hide (B8.out.trans (hb.mono B8.out.size))
    clear hb
    go_wp2_with fail
    refine (G5.out _).mono ?_
    rintro e w10 ⟨rfl, hb⟩
    have B10 := hide (B9.out.trans (hb.mono B9.out.size))
    clear hb
    go_wp2_with fail
    refine (G6.out _).mono ?_
    rintro e w11 ⟨rfl, hb⟩
    have B11 := hide (B10.out.trans (hb.mono B10.out.size))
    clear hb
    go_wp2_with fail
    refine (G7.out _).mono ?_
    rintro e w12 ⟨rfl, hb⟩
    have B12 := hide (B11.out.trans (hb.mono B11.out.size))
    clear hb
    go_wp2_with fail
    refine (law_alive _).mono ?_
    rintro e w13 ⟨rfl, hb⟩
    have B13 := hide (B12.out.trans (hb.mono B12.out.size))
    clear hb
    go_wp2_with fail
    go_ret
    exact ⟨rfl, B13.out⟩
  · have G1 := hide g1
    have G2 := hide g2
    have G3 := hide g3
    have G4 := hide g4
    have G5 := hide g5
    clear g1 g2 g3 g4 g5 HBB
    go_wp2_with fail
    refine (G1.out _).mono ?_
    rintro e w6 ⟨rfl, hb⟩
    have B6 := hide (B5.out.trans (hb.mono B5.out.size))
    clear hb
    go_wp2_with fail
    refine (G2.out _).mono ?_
    rintro e w7 ⟨rfl, hb⟩
    have B7 := hide (B6.out.trans (hb.mono B6.out.size))
    clear hb
    go_wp2_with fail
    refine (G3.out _).mono ?_
    rintro e w8 ⟨rfl, hb⟩
    have B8 := hide (B7.out.trans (hb.mono B7.out.size))
    clear hb
    go_wp2_with fail
    refine (G4.out _).mono ?_
    rintro e w9 ⟨rfl, hb⟩
    have B9 := hide (B8.out.trans (hb.mono B8.out.size))
    clear hb
    go_wp2_with fail
    refine (G5.out _).mono ?_
    rintro e w10 ⟨rfl, hb⟩
    have B10 := hide (B9.out.trans (hb.mono B9.out.size))
    clear hb
    go_wp2_with fail
    refine (law_alive _).mono ?_
    rintro e w11 ⟨rfl, hb⟩
    have B11 := hide (B10.out.trans (hb.mono B10.out.size))
    clear hb
    go_wp2_with fail
    go_ret
    exact ⟨rfl, B11.out⟩
  · have G1 := hide g1
    have G2 := hide g2
    have G3 := hide g3
    clear g1 g2 g3 HBB
    go_wp2_with fail
    refine (G1.out _).mono ?_
    rintro e w6 ⟨rfl, hb⟩
    have B6 := hide (B5.out.trans (hb.mono B5.out.size))
    clear hb
    go_wp2_with fail
    refine (G2.out _).mono ?_
    rintro e w7 ⟨rfl, hb⟩
    have B7 := hide (B6.out.trans (hb.mono B6.out.size))
    clear hb
    go_wp2_with fail
    refine (G3.out _).mono ?_
    rintro e w8 ⟨rfl, hb⟩
    have B8 := hide (B7.out.trans (hb.mono B7.out.size))
    clear hb
    go_wp2_with fail
    refine (law_alive _).mono ?_
    rintro e w9 ⟨rfl, hb⟩
    have B9 := hide (B8.out.trans (hb.mono B8.out.size))
    clear hb
    go_wp2_with fail
    go_ret
    exact ⟨rfl, B9.out⟩

theorem asks_gl_true (w : World) (c : Int) (a b : Int) (a0 : 0 ≤ a) (b0 : 0 ≤ b) (A : Asked true a b false false true true false) (hB : Behind c true a b)
    (hbit : (bits .and .u64 (a / 9223372036854775808) 1 == bits .and .u64 (b / 9223372036854775808) 1) = false) :
    Calls Try.prog 10 #[.int .u8 c, .bool true, .int .u64 a, .int .u64 b] w (BoolPost_ w) := by
  have d1 : 0 ≤ a / 9223372036854775808 := Int.ediv_nonneg a0 (by decide)
  have d2 : 0 ≤ b / 9223372036854775808 := Int.ediv_nonneg b0 (by decide)
  have hb2 : (bits .and .u64 (a / 9223372036854775808) 1 != bits .and .u64 (b / 9223372036854775808) 1) = true := by rw [bne, hbit]; rfl
  have HA := hide A
  have HBB := hide hB
  clear A hB
  go_enter Try.func10, Try.ntmps10
  go_wp2_with fail
  refine (HA.out.eq _).mono ?_
  rintro e w1 ⟨rfl, hb⟩
  have B1 := hide hb
  clear hb
  go_wp2_with fail
  refine (HA.out.lt _).mono ?_
  rintro e w2 ⟨rfl, hb⟩
  have B2 := hide (B1.out.trans (hb.mono B1.out.size))
  clear hb
  go_wp2_with fail
  refine (HA.out.gt _).mono ?_
  rintro e w3 ⟨rfl, hb⟩
  have B3 := hide (B2.out.trans (hb.mono B2.out.size))
  clear hb
  go_wp2_with fail
  refine (HA.out.slt _).mono ?_
  rintro e w4 ⟨rfl, hb⟩
  have B4 := hide (B3.out.trans (hb.mono B3.out.size))
  clear hb
  go_wp2_with fail
  refine (HA.out.sgt _).mono ?_
  rintro e w5 ⟨rfl, hb⟩
  have B5 := hide (B4.out.trans (hb.mono B4.out.size))
  clear hb
  rcases HBB.out with ⟨X, t, o, g1, g2, g3, g4, g5, g6, g7⟩ | ⟨X, t, o, g1, g2, g3, g4, g5⟩ | ⟨X, q, t, o, g1, g2, g3⟩
  · have G1 := hide g1
    have G2 := hide g2
    have G3 := hide g3
    have G4 := hide g4
    have G5 := hide g5
    have G6 := hide g6
    have G7 := hide g7
    clear g1 g2 g3 g4 g5 g6 g7 HBB
    go_wp2_with fail
    refine (G1.out _).mono ?_
    rintro e w6 ⟨rfl, hb⟩
    have B6 := hide (B5.out.trans (hb.mono B5.out.size))
    clear hb
    go_wp2_with fail
    refine (G2.out _).mono ?_
    rintro e w7 ⟨rfl, hb⟩
    have B7 := hide (B6.out.trans (hb.mono B6.out.size))
    clear hb
    go_wp2_with fail
    refine (G3.out _).mono ?_
    rintro e w8 ⟨rfl, hb⟩
    have B8 := hide (B7.out.trans (hb.mono B7.out.size))
    clear hb
    go_wp2_with fail
    refine (G4.out _).mono ?_
    rintro e w9 ⟨rfl, hb⟩
    have B9 := hide (B8.out.trans (hb.mono B8.out.size))
    clear hb
    go_wp2_with fail
    refine (G5.out _).mono ?_
    rintro e w10 ⟨rfl, hb⟩
    have B10 := hide (B9.out.trans (hb.mono B9.out.size))
    clear hb
    go_wp2_with fail
    refine (G6.out _).mono ?_
    rintro e w11 ⟨rfl, hb⟩
    have B11 := hide (B10.out.trans (hb.mono B10.out.size))
    clear hb
    go_wp2_with fail
    refine (G7.out _).mono ?_
    rintro e w12 ⟨rfl, hb⟩
    have B12 := hide (B11.out.trans (hb.mono B11.out.size))
    clear hb
    go_wp2_with fail
    refine (law_alive _).mono ?_
    rintro e w13 ⟨rfl, hb⟩
    have B13 := hide (B12.out.trans (hb.mono B12.out.size))
    clear hb
    go_wp2_with fail
    go_ret
    exact ⟨rfl, B13.out⟩
  · have G1 := hide g1
    have G2 := hide g2
    have G3 := hide g3
    have G4 := hide g4
    have G5 := hide g5
    clear g1 g2 g3 g4 g5 HBB
    go_wp2_with fail
    refine (G1.out _).mono ?_
    rintro e w6 ⟨rfl, hb⟩
    have B6 := hide (B5.out.trans (hb.mono B5.out.size))
    clear hb
    go_wp2_with fail
    refine (G2.out _).mono ?_
    rintro e w7 ⟨rfl, hb⟩
    have B7 := hide (B6.out.trans (hb.mono B6.out.size))
    clear hb
    go_wp2_with fail
    refine (G3.out _).mono ?_
    rintro e w8 ⟨rfl, hb⟩
    have B8 := hide (B7.out.trans (hb.mono B7.out.size))
    clear hb
    go_wp2_with fail
    refine (G4.out _).mono ?_
    rintro e w9 ⟨rfl, hb⟩
    have B9 := hide (B8.out.trans (hb.mono B8.out.size))
    clear hb
    go_wp2_with fail
    refine (G5.out _).mono ?_
    rintro e w10 ⟨rfl, hb⟩
    have B10 := hide (B9.out.trans (hb.mono B9.out.size))
    clear hb
    go_wp2_with fail
    refine (law_alive _).mono ?_
    rintro e w11 ⟨rfl, hb⟩
    have B11 := hide (B10.out.trans (hb.mono B10.out.size))
    clear hb
    go_wp2_with fail
    go_ret
    exact ⟨rfl, B11.out⟩
  · have G1 := hide g1
    have G2 := hide g2
    have G3 := hide g3
    clear g1 g2 g3 HBB
    go_wp2_with fail
    refine (G1.out _).mono ?_
    rintro e w6 ⟨rfl, hb⟩
    have B6 := hide (B5.out.trans (hb.mono B5.out.size))
    clear hb
    go_wp2_with fail
    refine (G2.out _).mono ?_
    rintro e w7 ⟨rfl, hb⟩
    have B7 := hide (B6.out.trans (hb.mono B6.out.size))
    clear hb
    go_wp2_with fail
    refine (G3.out _).mono ?_
    rintro e w8 ⟨rfl, hb⟩
    have B8 := hide (B7.out.trans (hb.mono B7.out.size))
    clear hb
    go_wp2_with fail
    refine (law_alive _).mono ?_
    rintro e w9 ⟨rfl, hb⟩
    have B9 := hide (B8.out.trans (hb.mono B8.out.size))
    clear hb
    go_wp2_with fail
    go_ret
    exact ⟨rfl, B9.out⟩

theorem asks_gl_false (w : World) (c : Int) (a b : Int) (a0 : 0 ≤ a) (b0 : 0 ≤ b) (A : Asked false a b false false true true false) (hB : Behind c false a b)
    (hbit : (bits .and .u64 (a / 2147483648) 1 == bits .and .u64 (b / 2147483648) 1) = false) :
    Calls Try.prog 10 #[.int .u8 c, .bool false, .int .u64 a, .int .u64 b] w (BoolPost_ w) := by
  have d1 : 0 ≤ a / 2147483648 := Int.ediv_nonneg a0 (by decide)
  have d2 : 0 ≤ b / 2147483648 := Int.ediv_nonneg b0 (by decide)
  have hb2 : (bits .and .u64 (a / 2147483648) 1 != bits .and .u64 (b / 2147483648) 1) = true := by rw [bne, hbit]; rfl
  have HA := hide A
  have HBB := hide hB
  clear A hB
  go_enter Try.func10, Try.ntmps10
  go_wp2_with fail
  refine (HA.out.eq _).mono ?_
  rintro e w1 ⟨rfl, hb⟩
  have B1 := hide hb
  clear hb
  go_wp2_with fail
  refine (HA.out.lt _).mono ?_
  rintro e w2 ⟨rfl, hb⟩
  have B2 := hide (B1.out.trans (hb.mono B1.out.size))
  clear hb
  go_wp2_with fail
  refine (HA.out.gt _).mono ?_
  rintro e w3 ⟨rfl, hb⟩
  have B3 := hide (B2.out.trans (hb.mono B2.out.size))
  clear hb
  go_wp2_with fail
  refine (HA.out.slt _).mono ?_
  rintro e w4 ⟨rfl, hb⟩
  have B4 := hide (B3.out.trans (hb.mono B3.out.size))
  clear hb
  go_wp2_with fail
  refine (HA.out.sgt _).mono ?_
  rintro e w5 ⟨rfl, hb⟩
  have B5 := hide (B4.out.trans (hb.mono B4.out.size))
  clear hb
  rcases HBB.out with ⟨X, t, o, g1, g2, g3, g4, g5, g6, g7⟩ | ⟨X, t, o, g1, g2, g3, g4, g5⟩ | ⟨X, q, t, o, g1, g2, g3⟩
  · have G1 := hide g1
    have G2 := hide g2
    have G3 := hide g3
    have G4 := hide g4
    have G5 := hide g5
    have G6 := hide g6
    have G7 := hide g7
    clear g1 g2 g3 g4 g5 g6 g7 HBB
    go_wp2_with fail
    refine (G1.out _).mono ?_
    rintro e w6 ⟨rfl, hb⟩
    have B6 := hide (B5.out.trans (hb.mono B5.out.size))
    clear hb
    go_wp2_with fail
    refine (G2.out _).mono ?_
    rintro e w7 ⟨rfl, hb⟩
    have B7 := hide (B6.out.trans (hb.mono B6.out.size))
    clear hb
    go_wp2_with fail
    refine (G3.out _).mono ?_
    rintro e w8 ⟨rfl, hb⟩
    have B8 := hide (B7.out.trans (hb.mono B7.out.size))
    clear hb
    go_wp2_with fail
    refine (G4.out _).mono ?_
    rintro e w9 ⟨rfl, hb⟩
    have B9 := hide (B8.out.trans (hb.mono B8.out.size))
    clear hb
    go_wp2_with fail
    refine (G5.out _).mono ?_
    rintro e w10 ⟨rfl, hb⟩
    have B10 := hide (B9.out.trans (hb.mono B9.out.size))
    clear hb
    go_wp2_with fail
    refine (G6.out _).mono ?_
    rintro e w11 ⟨rfl, hb⟩
    have B11 := hide (B10.out.trans (hb.mono B10.out.size))
    clear hb
    go_wp2_with fail
    refine (G7.out _).mono ?_
    rintro e w12 ⟨rfl, hb⟩
    have B12 := hide (B11.out.trans (hb.mono B11.out.size))
    clear hb
    go_wp2_with fail
    refine (law_alive _).mono ?_
    rintro e w13 ⟨rfl, hb⟩
    have B13 := hide (B12.out.trans (hb.mono B12.out.size))
    clear hb
    go_wp2_with fail
    go_ret
    exact ⟨rfl, B13.out⟩
  · have G1 := hide g1
    have G2 := hide g2
    have G3 := hide g3
    have G4 := hide g4
    have G5 := hide g5
    clear g1 g2 g3 g4 g5 HBB
    go_wp2_with fail
    refine (G1.out _).mono ?_
    rintro e w6 ⟨rfl, hb⟩
    have B6 := hide (B5.out.trans (hb.mono B5.out.size))
    clear hb
    go_wp2_with fail
    refine (G2.out _).mono ?_
    rintro e w7 ⟨rfl, hb⟩
    have B7 := hide (B6.out.trans (hb.mono B6.out.size))
    clear hb
    go_wp2_with fail
    refine (G3.out _).mono ?_
    rintro e w8 ⟨rfl, hb⟩
    have B8 := hide (B7.out.trans (hb.mono B7.out.size))
    clear hb
    go_wp2_with fail
    refine (G4.out _).mono ?_
    rintro e w9 ⟨rfl, hb⟩
    have B9 := hide (B8.out.trans (hb.mono B8.out.size))
    clear hb
    go_wp2_with fail
    refine (G5.out _).mono ?_
    rintro e w10 ⟨rfl, hb⟩
    have B10 := hide (B9.out.trans (hb.mono B9.out.size))
    clear hb
    go_wp2_with fail
    refine (law_alive _).mono ?_
    rintro e w11 ⟨rfl, hb⟩
    have B11 := hide (B10.out.trans (hb.mono B10.out.size))
    clear hb
    go_wp2_with fail
    go_ret
    exact ⟨rfl, B11.out⟩
  · have G1 := hide g1
    have G2 := hide g2
    have G3 := hide g3
    clear g1 g2 g3 HBB
    go_wp2_with fail
    refine (G1.out _).mono ?_
    rintro e w6 ⟨rfl, hb⟩
    have B6 := hide (B5.out.trans (hb.mono B5.out.size))
    clear hb
    go_wp2_with fail
    refine (G2.out _).mono ?_
    rintro e w7 ⟨rfl, hb⟩
    have B7 := hide (B6.out.trans (hb.mono B6.out.size))
    clear hb
    go_wp2_with fail
    refine (G3.out _).mono ?_
    rintro e w8 ⟨rfl, hb⟩
    have B8 := hide (B7.out.trans (hb.mono B7.out.size))
    clear hb
    go_wp2_with fail
    refine (law_alive _).mono ?_
    rintro e w9 ⟨rfl, hb⟩
    have B9 := hide (B8.out.trans (hb.mono B8.out.size))
    clear hb
    go_wp2_with fail
    go_ret
    exact ⟨rfl, B9.out⟩

theorem asks_gg_true (w : World) (c : Int) (a b : Int) (a0 : 0 ≤ a) (b0 : 0 ≤ b) (A : Asked true a b false false true false true) (hB : Behind c true a b)
    (hbit : (bits .and .u64 (a / 9223372036854775808) 1 == bits .and .u64 (b / 9223372036854775808) 1) = true) :
    Calls Try.prog 10 #[.int .u8 c, .bool true, .int .u64 a, .int .u64 b] w (BoolPost_ w) := by
  have d1 : 0 ≤ a / 9223372036854775808 := Int.ediv_nonneg a0 (by decide)
  have d2 : 0 ≤ b / 9223372036854775808 := Int.ediv_nonneg b0 (by decide)
  have hb2 : (bits .and .u64 (a / 9223372036854775808) 1 != bits .and .u64 (b / 9223372036854775808) 1) = false := by rw [bne, hbit]; rfl
  have HA := hide A
  have HBB := hide hB
  clear A hB
  go_enter Try.func10, Try.ntmps10
  go_wp2_with fail
  refine (HA.out.eq _).mono ?_
  rintro e w1 ⟨rfl, hb⟩
  have B1 := hide hb
  clear hb
  go_wp2_with fail
  refine (HA.out.lt _).mono ?_
  rintro e w2 ⟨rfl, hb⟩
  have B2 := hide (B1.out.trans (hb.mono B1.out.size))
  clear hb
  go_wp2_with fail
  refine (HA.out.gt _).mono ?_
  rintro e w3 ⟨rfl, hb⟩
  have B3 := hide (B2.out.trans (hb.mono B2.out.size))
  clear hb
  go_wp2_with fail
  refine (HA.out.slt _).mono ?_
  rintro e w4 ⟨rfl, hb⟩
  have B4 := hide (B3.out.trans (hb.mono B3.out.size))
  clear hb
  go_wp2_with fail
  refine (HA.out.sgt _).mono ?_
  rintro e w5 ⟨rfl, hb⟩
  have B5 := hide (B4.out.trans (hb.mono B4.out.size))
  clear hb
  rcases HBB.out with ⟨X, t, o, g1, g2, g3, g4, g5, g6, g7⟩ | ⟨X, t, o, g1, g2, g3, g4, g5⟩ | ⟨X, q, t, o, g1, g2, g3⟩
  · have G1 := hide g1
    have G2 := hide g2
    have G3 := hide g3
    have G4 := hide g4
    have G5 := hide g5
    have G6 := hide g6
    have G7 := hide g7
    clear g1 g2 g3 g4 g5 g6 g7 HBB
    go_wp2_with fail
    refine (G1.out _).mono ?_
    rintro e w6 ⟨rfl, hb⟩
    have B6 := hide (B5.out.trans (hb.mono B5.out.size))
    clear hb
    go_wp2_with fail
    refine (G2.out _).mono ?_
    rintro e w7 ⟨rfl, hb⟩
    have B7 := hide (B6.out.trans (hb.mono B6.out.size))
    clear hb
    go_wp2_with fail
    refine (G3.out _).mono ?_
    rintro e w8 ⟨rfl, hb⟩
    have B8 := hide (B7.out.trans (hb.mono B7.out.size))
    clear hb
    go_wp2_with fail
    refine (G4.out _).mono ?_
    rintro e w9 ⟨rfl, hb⟩
    have B9 := hide (B8.out.trans (hb.mono B8.out.size))
    clear hb
    go_wp2_with fail
    refine (G5.out _).mono ?_
    rintro e w10 ⟨rfl, hb⟩
    have B10 := hide (B9.out.trans (hb.mono B9.out.size))
    clear hb
    go_wp2_with fail
    refine (G6.out _).mono ?_
    rintro e w11 ⟨rfl, hb⟩
    have B11 := hide (B10.out.trans (hb.mono B10.out.size))
    clear hb
    go_wp2_with fail
    refine (G7.out _).mono ?_
    rintro e w12 ⟨rfl, hb⟩
    have B12 := hide (B11.out.trans (hb.mono B11.out.size))
    clear hb
    go_wp2_with fail
    refine (law_alive _).mono ?_
    rintro e w13 ⟨rfl, hb⟩
    have B13 := hide (B12.out.trans (hb.mono B12.out.size))
    clear hb
    go_wp2_with fail
    go_ret
    exact ⟨rfl, B13.out⟩
  · have G1 := hide g1
    have G2 := hide g2
    have G3 := hide g3
    have G4 := hide g4
    have G5 := hide g5
    clear g1 g2 g3 g4 g5 HBB
    go_wp2_with fail
    refine (G1.out _).mono ?_
    rintro e w6 ⟨rfl, hb⟩
    have B6 := hide (B5.out.trans (hb.mono B5.out.size))
    clear hb
    go_wp2_with fail
    refine (G2.out _).mono ?_
    rintro e w7 ⟨rfl, hb⟩
    have B7 := hide (B6.out.trans (hb.mono B6.out.size))
    clear hb
    go_wp2_with fail
    refine (G3.out _).mono ?_
    rintro e w8 ⟨rfl, hb⟩
    have B8 := hide (B7.out.trans (hb.mono B7.out.size))
    clear hb
    go_wp2_with fail
    refine (G4.out _).mono ?_
    rintro e w9 ⟨rfl, hb⟩
    have B9 := hide (B8.out.trans (hb.mono B8.out.size))
    clear hb
    go_wp2_with fail
    refine (G5.out _).mono ?_
    rintro e w10 ⟨rfl, hb⟩
    have B10 := hide (B9.out.trans (hb.mono B9.out.size))
    clear hb
    go_wp2_with fail
    refine (law_alive _).mono ?_
    rintro e w11 ⟨rfl, hb⟩
    have B11 := hide (B10.out.trans (hb.mono B10.out.size))
    clear hb
    go_wp2_with fail
    go_ret
    exact ⟨rfl, B11.out⟩
  · have G1 := hide g1
    have G2 := hide g2
    have G3 := hide g3
    clear g1 g2 g3 HBB
    go_wp2_with fail
    refine (G1.out _).mono ?_
    rintro e w6 ⟨rfl, hb⟩
    have B6 := hide (B5.out.trans (hb.mono B5.out.size))
    clear hb
    go_wp2_with fail
    refine (G2.out _).mono ?_
    rintro e w7 ⟨rfl, hb⟩
    have B7 := hide (B6.out.trans (hb.mono B6.out.size))
    clear hb
    go_wp2_with fail
    refine (G3.out _).mono ?_
    rintro e w8 ⟨rfl, hb⟩
    have B8 := hide (B7.out.trans (hb.mono B7.out.size))
    clear hb
    go_wp2_with fail
    refine (law_alive _).mono ?_
    rintro e w9 ⟨rfl, hb⟩
    have B9 := hide (B8.out.trans (hb.mono B8.out.size))
    clear hb
    go_wp2_with fail
    go_ret
    exact ⟨rfl, B9.out⟩

theorem asks_gg_false (w : World) (c : Int) (a b : Int) (a0 : 0 ≤ a) (b0 : 0 ≤ b) (A : Asked false a b false false true false true) (hB : Behind c false a b)
    (hbit : (bits .and .u64 (a / 2147483648) 1 == bits .and .u64 (b / 2147483648) 1) = true) :
    Calls Try.prog 10 #[.int .u8 c, .bool false, .int .u64 a, .int .u64 b] w (BoolPost_ w) := by
  have d1 : 0 ≤ a / 2147483648 := Int.ediv_nonneg a0 (by decide)
  have d2 : 0 ≤ b / 2147483648 := Int.ediv_nonneg b0 (by decide)
  have hb2 : (bits .and .u64 (a / 2147483648) 1 != bits .and .u64 (b / 2147483648) 1) = false := by rw [bne, hbit]; rfl
  have HA := hide A
  have HBB := hide hB
  clear A hB
  go_enter Try.func10, Try.ntmps10
  go_wp2_with fail
  refine (HA.out.eq _).mono ?_
  rintro e w1 ⟨rfl, hb⟩
  have B1 := hide hb
  clear hb
  go_wp2_with fail
  refine (HA.out.lt _).mono ?_
  rintro e w2 ⟨rfl, hb⟩
  have B2 := hide (B1.out.trans (hb.mono B1.out.size))
  clear hb
  go_wp2_with fail
  refine (HA.out.gt _).mono ?_
  rintro e w3 ⟨rfl, hb⟩
  have B3 := hide (B2.out.trans (hb.mono B2.out.size))
  clear hb
  go_wp2_with fail
  refine (HA.out.slt _).mono ?_
  rintro e w4 ⟨rfl, hb⟩
  have B4 := hide (B3.out.trans (hb.mono B3.out.size))
  clear hb
  go_wp2_with fail
  refine (HA.out.sgt _).mono ?_
  rintro e w5 ⟨rfl, hb⟩
  have B5 := hide (B4.out.trans (hb.mono B4.out.size))
  clear hb
  rcases HBB.out with ⟨X, t, o, g1, g2, g3, g4, g5, g6, g7⟩ | ⟨X, t, o, g1, g2, g3, g4, g5⟩ | ⟨X, q, t, o, g1, g2, g3⟩
  · have G1 := hide g1
    have G2 := hide g2
    have G3 := hide g3
    have G4 := hide g4
    have G5 := hide g5
    have G6 := hide g6
    have G7 := hide g7
    clear g1 g2 g3 g4 g5 g6 g7 HBB
    go_wp2_with fail
    refine (G1.out _).mono ?_
    rintro e w6 ⟨rfl, hb⟩
    have B6 := hide (B5.out.trans (hb.mono B5.out.size))
    clear hb
    go_wp2_with fail
    refine (G2.out _).mono ?_
    rintro e w7 ⟨rfl, hb⟩
    have B7 := hide (B6.out.trans (hb.mono B6.out.size))
    clear hb
    go_wp2_with fail
    refine (G3.out _).mono ?_
    rintro e w8 ⟨rfl, hb⟩
    have B8 := hide (B7.out.trans (hb.mono B7.out.size))
    clear hb
    go_wp2_with fail
    refine (G4.out _).mono ?_
    rintro e w9 ⟨rfl, hb⟩
    have B9 := hide (B8.out.trans (hb.mono B8.out.size))
    clear hb
    go_wp2_with fail
    refine (G5.out _).mono ?_
    rintro e w10 ⟨rfl, hb⟩
    have B10 := hide (B9.out.trans (hb.mono B9.out.size))
    clear hb
    go_wp2_with fail
    refine (G6.out _).mono ?_
    rintro e w11 ⟨rfl, hb⟩
    have B11 := hide (B10.out.trans (hb.mono B10.out.size))
    clear hb
    go_wp2_with fail
    refine (G7.out _).mono ?_
    rintro e w12 ⟨rfl, hb⟩
    have B12 := hide (B11.out.trans (hb.mono B11.out.size))
    clear hb
    go_wp2_with fail
    refine (law_alive _).mono ?_
    rintro e w13 ⟨rfl, hb⟩
    have B13 := hide (B12.out.trans (hb.mono B12.out.size))
    clear hb
    go_wp2_with fail
    go_ret
    exact ⟨rfl, B13.out⟩
  · have G1 := hide g1
    have G2 := hide g2
    have G3 := hide g3
    have G4 := hide g4
    have G5 := hide g5
    clear g1 g2 g3 g4 g5 HBB
    go_wp2_with fail
    refine (G1.out _).mono ?_
    rintro e w6 ⟨rfl, hb⟩
    have B6 := hide (B5.out.trans (hb.mono B5.out.size))
    clear hb
    go_wp2_with fail
    refine (G2.out _).mono ?_
    rintro e w7 ⟨rfl, hb⟩
    have B7 := hide (B6.out.trans (hb.mono B6.out.size))
    clear hb
    go_wp2_with fail
    refine (G3.out _).mono ?_
    rintro e w8 ⟨rfl, hb⟩
    have B8 := hide (B7.out.trans (hb.mono B7.out.size))
    clear hb
    go_wp2_with fail
    refine (G4.out _).mono ?_
    rintro e w9 ⟨rfl, hb⟩
    have B9 := hide (B8.out.trans (hb.mono B8.out.size))
    clear hb
    go_wp2_with fail
    refine (G5.out _).mono ?_
    rintro e w10 ⟨rfl, hb⟩
    have B10 := hide (B9.out.trans (hb.mono B9.out.size))
    clear hb
    go_wp2_with fail
    refine (law_alive _).mono ?_
    rintro e w11 ⟨rfl, hb⟩
    have B11 := hide (B10.out.trans (hb.mono B10.out.size))
    clear hb
    go_wp2_with fail
    go_ret
    exact ⟨rfl, B11.out⟩
  · have G1 := hide g1
    have G2 := hide g2
    have G3 := hide g3
    clear g1 g2 g3 HBB
    go_wp2_with fail
    refine (G1.out _).mono ?_
    rintro e w6 ⟨rfl, hb⟩
    have B6 := hide (B5.out.trans (hb.mono B5.out.size))
    clear hb
    go_wp2_with fail
    refine (G2.out _).mono ?_
    rintro e w7 ⟨rfl, hb⟩
    have B7 := hide (B6.out.trans (hb.mono B6.out.size))
    clear hb
    go_wp2_with fail
    refine (G3.out _).mono ?_
    rintro e w8 ⟨rfl, hb⟩
    have B8 := hide (B7.out.trans (hb.mono B7.out.size))
    clear hb
    go_wp2_with fail
    refine (law_alive _).mono ?_
    rintro e w9 ⟨rfl, hb⟩
    have B9 := hide (B8.out.trans (hb.mono B8.out.size))
    clear hb
    go_wp2_with fail
    go_ret
    exact ⟨rfl, B9.out⟩

theorem behind (c : Int) (hc : 0 ≤ c ∧ c < 256) (wide : Bool) (a b : Int) (ha : 0 ≤ a ∧ a < 18446744073709551616) (hb : 0 ≤ b ∧ b < 18446744073709551616) (x y s t : Int)
    (hA : ∀ k, aluAsks k wide a b = askOf k x y s t) (hB : ∀ k, aluAsks k wide b a = askOf k y x t s) : Behind c wide a b := by
  have cA : ∀ k r, askOf k x y s t = r → ∀ w, Calls Try.prog 14 #[.int .u8 k, .bool wide, .int .u64 a, .int .u64 b] w (AsksPost w r) := fun k r h w => by
    rw [← h, ← hA]
    exact alu_asks w k a b wide ha.1 ha.2 hb.1 hb.2
  have cB : ∀ k r, askOf k y x t s = r → ∀ w, Calls Try.prog 14 #[.int .u8 k, .bool wide, .int .u64 b, .int .u64 a] w (AsksPost w r) := fun k r h w => by
    rw [← h, ← hB]
    exact alu_asks w k b a wide hb.1 hb.2 ha.1 ha.2
  have cT : ∀ k r, pairOf k turnedPairs = r → ∀ w, Calls Try.prog 27 #[.int .u8 k] w (PairPost w r) := fun k r h w => by
    rw [← h]
    exact alu_turned w k
  have cO : ∀ k r, pairOf k otherPairs = r → ∀ w, Calls Try.prog 29 #[.int .u8 k] w (PairPost w r) := fun k r h w => by
    rw [← h]
    exact alu_other w k
  have pr : ∀ {β γ : Type} (p : β × γ) (u : γ), p.2 = u → p = (p.1, u) := fun p u h => by rw [← h]
  have two : ∀ k l, (pairOf k turnedPairs).2 = true → (pairOf l turnedPairs).1 = k → (pairOf k turnedPairs).1 = l → (pairOf l turnedPairs).2 = true := fun k l h1 h2 h3 => by
    by_cases g : k = 1 ∨ k = 2 ∨ k = 3 ∨ k = 4 ∨ k = 5 ∨ k = 6 ∨ k = 7 ∨ k = 10 ∨ k = 11 ∨ k = 12 ∨ k = 13
    · rcases g with rfl | rfl | rfl | rfl | rfl | rfl | rfl | rfl | rfl | rfl | rfl <;> (subst h3; rfl)
    · unfold turnedPairs at h1
      simp only [pairOf] at h1
      simp (disch := omega) only [if_neg] at h1
      cases h1
  have twoO : ∀ k l, (pairOf k otherPairs).2 = true → (pairOf k otherPairs).1 = l → (pairOf l otherPairs).2 = true := fun k l h1 h3 => by
    by_cases g : k = 1 ∨ k = 2 ∨ k = 3 ∨ k = 5 ∨ k = 6 ∨ k = 7 ∨ k = 10 ∨ k = 11 ∨ k = 12 ∨ k = 13
    · rcases g with rfl | rfl | rfl | rfl | rfl | rfl | rfl | rfl | rfl | rfl <;> (subst h3; rfl)
    · unfold otherPairs at h1
      simp only [pairOf] at h1
      simp (disch := omega) only [if_neg] at h1
      cases h1
  cases ht : (pairOf c turnedPairs).2 with
  | true =>
    obtain ⟨t1, t2, t3⟩ := turned_spec c x y s t ht
    have t4 := two c _ ht t3 rfl
    have t5 : (askOf (pairOf c turnedPairs).1 y x t s).2 = 0 := (turned_spec (pairOf c turnedPairs).1 y x t s t4).1
    cases ho : (pairOf c otherPairs).2 with
    | true =>
      obtain ⟨o1, o2, o3⟩ := other_spec c x y s t ho
      have o4 := twoO c _ ho rfl
      have o5 : (askOf (pairOf c otherPairs).1 x y s t).2 = 0 := (other_spec (pairOf c otherPairs).1 x y s t o4).1
      have o6 : (askOf (pairOf c otherPairs).1 x y s t).1 = !(askOf c x y s t).1 := by
        revert o2
        cases (askOf (pairOf c otherPairs).1 x y s t).1 <;> cases (askOf c x y s t).1 <;> simp
      refine .both (askOf c x y s t).1 (pairOf c turnedPairs).1 (pairOf c otherPairs).1 (cA c _ (pr _ _ t1)) (cT c _ (pr _ _ ht)) (cO c _ (pr _ _ ho)) (cB _ _ ?_) (cT _ _ ?_) (cA _ _ ?_) (cO _ _ ?_)
      · rw [← t2]; exact pr _ _ t5
      · rw [pr _ _ t4, t3]
      · rw [← o6]; exact pr _ _ o5
      · rw [pr _ _ o4, o3]
    | false =>
      refine .one (askOf c x y s t).1 (pairOf c turnedPairs).1 (pairOf c otherPairs).1 (cA c _ (pr _ _ t1)) (cT c _ (pr _ _ ht)) (cO c _ (pr _ _ ho)) (cB _ _ ?_) (cT _ _ ?_)
      · rw [← t2]; exact pr _ _ t5
      · rw [pr _ _ t4, t3]
  | false =>
    have ho : (pairOf c otherPairs).2 = false := by
      by_cases g : c = 1 ∨ c = 2 ∨ c = 3 ∨ c = 4 ∨ c = 5 ∨ c = 6 ∨ c = 7 ∨ c = 10 ∨ c = 11 ∨ c = 12 ∨ c = 13
      · rcases g with rfl | rfl | rfl | rfl | rfl | rfl | rfl | rfl | rfl | rfl | rfl <;> cases ht
      · unfold otherPairs
        simp only [pairOf]
        simp (disch := omega) only [if_neg]
    exact .none (askOf c x y s t).1 (askOf c x y s t).2 (pairOf c turnedPairs).1 (pairOf c otherPairs).1 (cA c _ rfl) (cT c _ (pr _ _ ht)) (cO c _ (pr _ _ ho))

theorem alu_asks_walk (w : World) (c : Int) (wc : (Lit.int .u8 c).wf = true) (wide : Bool) (a : Int) (wa : (Lit.int .u64 a).wf = true) (b : Int) (wb : (Lit.int .u64 b).wf = true) :
    Calls Try.prog 10 #[.int .u8 c, .bool wide, .int .u64 a, .int .u64 b] w fun e w' => e = .returned (.bool true) ∧ Below w.heap.size w w' := by
  have ha := wf_u64 wa
  have hb := wf_u64 wb
  have hc := wf_u8 wc
  have hp := aluMod_pos wide
  obtain ⟨x, hx⟩ : ∃ x, a % aluMod wide = x := ⟨_, rfl⟩
  obtain ⟨y, hy⟩ : ∃ x, b % aluMod wide = x := ⟨_, rfl⟩
  have x0 : 0 ≤ x := by rw [← hx]; exact Int.emod_nonneg a (by omega)
  have x1 : x < aluMod wide := by rw [← hx]; exact Int.emod_lt_of_pos a hp
  have y0 : 0 ≤ y := by rw [← hy]; exact Int.emod_nonneg b (by omega)
  have y1 : y < aluMod wide := by rw [← hy]; exact Int.emod_lt_of_pos b hp
  obtain ⟨s, hs⟩ : ∃ s, (if x < aluMod wide / 2 then x else x - aluMod wide) = s := ⟨_, rfl⟩
  obtain ⟨t, ht⟩ : ∃ s, (if y < aluMod wide / 2 then y else y - aluMod wide) = s := ⟨_, rfl⟩
  have hA : ∀ k, aluAsks k wide a b = askOf k x y s t := fun k => by
    unfold aluAsks
    rw [low_mod, low_mod, hx, hy, sign_mod x wide x0 x1, sign_mod y wide y0 y1, hs, ht]
  have hB : ∀ k, aluAsks k wide b a = askOf k y x t s := fun k => by
    unfold aluAsks
    rw [low_mod, low_mod, hx, hy, sign_mod x wide x0 x1, sign_mod y wide y0 y1, hs, ht]
  have hbe := behind c hc wide a b ha hb x y s t hA hB
  have cA : ∀ k r, askOf k x y s t = r → ∀ w, Calls Try.prog 14 #[.int .u8 k, .bool wide, .int .u64 a, .int .u64 b] w (AsksPost w r) := fun k r h w => by
    rw [← h, ← hA]
    exact alu_asks w k a b wide ha.1 ha.2 hb.1 hb.2
  have asked : ∀ E L G SL SG, (x == y) = E → decide (x < y) = L → decide (y < x) = G → decide (s < t) = SL → decide (t < s) = SG → Asked wide a b E L G SL SG := fun E L G SL SG h1 h2 h3 h4 h5 =>
    ⟨cA 1 _ (by rw [← h1]; rfl), cA 10 _ (by rw [← h2]; rfl), cA 2 _ (by rw [← h3]; rfl), cA 12 _ (by rw [← h4]; rfl), cA 6 _ (by rw [← h5]; rfl)⟩
  have hbit : ∀ (z u D : Int), D = aluMod wide / 2 → 0 ≤ z → z < 18446744073709551616 → z % aluMod wide = u → bits .and .u64 (z / D) 1 = if u < aluMod wide / 2 then 0 else 1 := fun z u D hD z0 z1 hz => by
    subst hD
    have q0 : 0 ≤ z / (aluMod wide / 2) := Int.ediv_nonneg z0 (by cases wide <;> decide)
    have q1 := Int.ediv_le_self (aluMod wide / 2) z0
    rw [bit_one _ q0 (by omega)]
    cases wide
    · have hz : z % 4294967296 = u := hz
      show z / 2147483648 % 2 = if u < 2147483648 then 0 else 1
      split <;> omega
    · have hz : z % 18446744073709551616 = u := hz
      show z / 9223372036854775808 % 2 = if u < 9223372036854775808 then 0 else 1
      split <;> omega
  have sxy : s = t ↔ x = y := by
    constructor
    · intro h
      rw [← hs, ← ht] at h
      split at h <;> split at h <;> omega
    · rintro rfl
      rw [← hs, ← ht]
  have same : ∀ D, D = aluMod wide / 2 → ((x < y ∧ s < t) ∨ (y < x ∧ t < s) ∨ x = y) → (bits .and .u64 (a / D) 1 == bits .and .u64 (b / D) 1) = true := fun D hD h => by
    rw [hbit a x D hD ha.1 ha.2 hx, hbit b y D hD hb.1 hb.2 hy, beq_iff_eq]
    by_cases h1 : x < aluMod wide / 2 <;> by_cases h2 : y < aluMod wide / 2
    · rw [if_pos h1, if_pos h2]
    · rw [if_pos h1] at hs
      rw [if_neg h2] at ht
      omega
    · rw [if_neg h1] at hs
      rw [if_pos h2] at ht
      omega
    · rw [if_neg h1, if_neg h2]
  have apart : ∀ D, D = aluMod wide / 2 → ((x < y ∧ t < s) ∨ (y < x ∧ s < t)) → (bits .and .u64 (a / D) 1 == bits .and .u64 (b / D) 1) = false := fun D hD h => by
    rw [hbit a x D hD ha.1 ha.2 hx, hbit b y D hD hb.1 hb.2 hy, beq_eq_false_iff_ne]
    by_cases h1 : x < aluMod wide / 2 <;> by_cases h2 : y < aluMod wide / 2
    · rw [if_pos h1] at hs
      rw [if_pos h2] at ht
      omega
    · rw [if_pos h1, if_neg h2]; decide
    · rw [if_neg h1, if_pos h2]; decide
    · rw [if_neg h1] at hs
      rw [if_neg h2] at ht
      omega
  have T : ∀ p q : Int, p < q → decide (p < q) = true := fun p q h => decide_eq_true h
  have N : ∀ p q : Int, ¬ p < q → decide (p < q) = false := fun p q h => decide_eq_false h
  have tri : ∀ p q : Int, p < q ∨ p = q ∨ q < p := fun p q => by omega
  have ne : ∀ p q : Int, p ≠ q → (p == q) = false := fun p q h => by rw [beq_eq_false_iff_ne]; exact h
  cases wide
  · rcases tri x y with h | h | h
    · rcases tri s t with g | g | g
      · exact asks_ll_false w c a b ha.1 hb.1 (asked _ _ _ _ _ (ne _ _ (by omega)) (T _ _ (by omega)) (N _ _ (by omega)) (T _ _ (by omega)) (N _ _ (by omega))) hbe (same 2147483648 rfl (.inl ⟨h, g⟩))
      · exact absurd (sxy.1 g) (by omega)
      · exact asks_lg_false w c a b ha.1 hb.1 (asked _ _ _ _ _ (ne _ _ (by omega)) (T _ _ (by omega)) (N _ _ (by omega)) (N _ _ (by omega)) (T _ _ (by omega))) hbe (apart 2147483648 rfl (.inl ⟨h, g⟩))
    · have g := sxy.2 h
      exact asks_eq_false w c a b ha.1 hb.1 (asked _ _ _ _ _ (by rw [h]; exact beq_self_eq_true _) (N _ _ (by omega)) (N _ _ (by omega)) (N _ _ (by omega)) (N _ _ (by omega))) hbe (same 2147483648 rfl (.inr (.inr h)))
    · rcases tri s t with g | g | g
      · exact asks_gl_false w c a b ha.1 hb.1 (asked _ _ _ _ _ (ne _ _ (by omega)) (N _ _ (by omega)) (T _ _ (by omega)) (T _ _ (by omega)) (N _ _ (by omega))) hbe (apart 2147483648 rfl (.inr ⟨h, g⟩))
      · exact absurd (sxy.1 g) (by omega)
      · exact asks_gg_false w c a b ha.1 hb.1 (asked _ _ _ _ _ (ne _ _ (by omega)) (N _ _ (by omega)) (T _ _ (by omega)) (N _ _ (by omega)) (T _ _ (by omega))) hbe (same 2147483648 rfl (.inr (.inl ⟨h, g⟩)))
  · rcases tri x y with h | h | h
    · rcases tri s t with g | g | g
      · exact asks_ll_true w c a b ha.1 hb.1 (asked _ _ _ _ _ (ne _ _ (by omega)) (T _ _ (by omega)) (N _ _ (by omega)) (T _ _ (by omega)) (N _ _ (by omega))) hbe (same 9223372036854775808 rfl (.inl ⟨h, g⟩))
      · exact absurd (sxy.1 g) (by omega)
      · exact asks_lg_true w c a b ha.1 hb.1 (asked _ _ _ _ _ (ne _ _ (by omega)) (T _ _ (by omega)) (N _ _ (by omega)) (N _ _ (by omega)) (T _ _ (by omega))) hbe (apart 9223372036854775808 rfl (.inl ⟨h, g⟩))
    · have g := sxy.2 h
      exact asks_eq_true w c a b ha.1 hb.1 (asked _ _ _ _ _ (by rw [h]; exact beq_self_eq_true _) (N _ _ (by omega)) (N _ _ (by omega)) (N _ _ (by omega)) (N _ _ (by omega))) hbe (same 9223372036854775808 rfl (.inr (.inr h)))
    · rcases tri s t with g | g | g
      · exact asks_gl_true w c a b ha.1 hb.1 (asked _ _ _ _ _ (ne _ _ (by omega)) (N _ _ (by omega)) (T _ _ (by omega)) (T _ _ (by omega)) (N _ _ (by omega))) hbe (apart 9223372036854775808 rfl (.inr ⟨h, g⟩))
      · exact absurd (sxy.1 g) (by omega)
      · exact asks_gg_true w c a b ha.1 hb.1 (asked _ _ _ _ _ (ne _ _ (by omega)) (N _ _ (by omega)) (T _ _ (by omega)) (N _ _ (by omega)) (T _ _ (by omega))) hbe (same 9223372036854775808 rfl (.inr (.inl ⟨h, g⟩)))

end Go.Proofs.Ytdlgipoaimgbpaa
