import Derived.Test.YtcddpmiandgkjaaAluDoes
/-! alu.Asks. -/
namespace Go.Proofs.Ytcddpmiandgkjaa
open Go.RowKit Go.Maps
set_option maxHeartbeats 4000000
set_option maxRecDepth 100000

/-- What is asked of two numbers of n bytes, x and y; s and t: with a sign. -/
def askOf (c x y s t : Int) : Bool × Int :=
  if c = 0 then (true, 0) else if c = 1 then (x == y, 0) else if c = 5 then (x != y, 0) else if c = 4 then (bits .and .u64 x y != 0, 0) else
  if c = 10 then (decide (x < y), 0) else if c = 11 then (decide (x ≤ y), 0) else if c = 2 then (decide (y < x), 0) else if c = 3 then (decide (y ≤ x), 0) else
  if c = 12 then (decide (s < t), 0) else if c = 13 then (decide (s ≤ t), 0) else if c = 6 then (decide (t < s), 0) else if c = 7 then (decide (t ≤ s), 0) else (false, 20)

/-- What alu.Asks answers. -/
def aluAsks (c : Int) (wide : Bool) (a b : Int) : Bool × Int :=
  askOf c (wordLow a (aluSize wide)) (wordLow b (aluSize wide)) (wordSign (wordLow a (aluSize wide)) (aluSize wide)) (wordSign (wordLow b (aluSize wide)) (aluSize wide))

def AsksPost (w : World) (r : Bool × Int) (e : Ending) (w' : World) : Prop := e = .returned (.tuple #[.bool r.1, .int .i64 r.2]) ∧ Below w.heap.size w w'

theorem alu_compares_10 (w : World) (x y : Int) : Calls Try.prog 84 #[.int .u8 10, .int .u8 11, .int .u8 2, .int .u8 3, .int .u8 10, .int .u64 x, .int .u64 y] w fun e w' => e = .returned (.bool (decide (x < y))) ∧ w = w' := by
  go_enter Try.func84, Try.ntmps84
  go_wp2
  go_ret
  exact ⟨rfl, rfl⟩

theorem alu_compares_11 (w : World) (x y : Int) : Calls Try.prog 84 #[.int .u8 10, .int .u8 11, .int .u8 2, .int .u8 3, .int .u8 11, .int .u64 x, .int .u64 y] w fun e w' => e = .returned (.bool (decide (x ≤ y))) ∧ w = w' := by
  go_enter Try.func84, Try.ntmps84
  go_wp2
  go_ret
  exact ⟨rfl, rfl⟩

theorem alu_compares_2 (w : World) (x y : Int) : Calls Try.prog 84 #[.int .u8 10, .int .u8 11, .int .u8 2, .int .u8 3, .int .u8 2, .int .u64 x, .int .u64 y] w fun e w' => e = .returned (.bool (decide (y < x))) ∧ w = w' := by
  go_enter Try.func84, Try.ntmps84
  go_wp2
  go_ret
  exact ⟨rfl, rfl⟩

theorem alu_compares_3 (w : World) (x y : Int) : Calls Try.prog 84 #[.int .u8 10, .int .u8 11, .int .u8 2, .int .u8 3, .int .u8 3, .int .u64 x, .int .u64 y] w fun e w' => e = .returned (.bool (decide (y ≤ x))) ∧ w = w' := by
  go_enter Try.func84, Try.ntmps84
  go_wp2
  go_ret
  exact ⟨rfl, rfl⟩

theorem alu_compares_12 (w : World) (x y : Int) : Calls Try.prog 85 #[.int .u8 12, .int .u8 13, .int .u8 6, .int .u8 7, .int .u8 12, .int .i64 x, .int .i64 y] w fun e w' => e = .returned (.bool (decide (x < y))) ∧ w = w' := by
  go_enter Try.func85, Try.ntmps85
  go_wp2
  go_ret
  exact ⟨rfl, rfl⟩

theorem alu_compares_13 (w : World) (x y : Int) : Calls Try.prog 85 #[.int .u8 12, .int .u8 13, .int .u8 6, .int .u8 7, .int .u8 13, .int .i64 x, .int .i64 y] w fun e w' => e = .returned (.bool (decide (x ≤ y))) ∧ w = w' := by
  go_enter Try.func85, Try.ntmps85
  go_wp2
  go_ret
  exact ⟨rfl, rfl⟩

theorem alu_compares_6 (w : World) (x y : Int) : Calls Try.prog 85 #[.int .u8 12, .int .u8 13, .int .u8 6, .int .u8 7, .int .u8 6, .int .i64 x, .int .i64 y] w fun e w' => e = .returned (.bool (decide (y < x))) ∧ w = w' := by
  go_enter Try.func85, Try.ntmps85
  go_wp2
  go_ret
  exact ⟨rfl, rfl⟩

theorem alu_compares_7 (w : World) (x y : Int) : Calls Try.prog 85 #[.int .u8 12, .int .u8 13, .int .u8 6, .int .u8 7, .int .u8 7, .int .i64 x, .int .i64 y] w fun e w' => e = .returned (.bool (decide (y ≤ x))) ∧ w = w' := by
  go_enter Try.func85, Try.ntmps85
  go_wp2
  go_ret
  exact ⟨rfl, rfl⟩

theorem alu_asks (w : World) (c a b : Int) (wide : Bool) (a0 : 0 ≤ a) (a1 : a < 18446744073709551616) (b0 : 0 ≤ b) (b1 : b < 18446744073709551616) :
    Calls Try.prog 66 #[.int .u8 c, .bool wide, .int .u64 a, .int .u64 b] w (AsksPost w (aluAsks c wide a b)) := by
  obtain ⟨n, hn⟩ : ∃ n : Int, aluSize wide = n := ⟨_, rfl⟩
  have hsz : ∀ w, Calls Try.prog 67 #[.bool wide] w fun e w' => e = .returned (.int .i64 n) ∧ w = w' := fun w => by rw [← hn]; exact alu_size w wide
  have HS := hide hsz
  unfold aluAsks
  rw [hn]
  clear hsz hn
  obtain ⟨x, hx⟩ : ∃ x, wordLow a n = x := ⟨_, rfl⟩
  obtain ⟨y, hy⟩ : ∃ x, wordLow b n = x := ⟨_, rfl⟩
  have hxr := low_range a n a0
  have hyr := low_range b n b0
  rw [hx] at hxr
  rw [hy] at hyr
  have CL : ∀ w, Calls Try.prog 68 #[.int .u64 a, .int .i64 n] w fun e w' => e = .returned (.int .u64 x) ∧ w = w' := fun w => by rw [← hx]; exact word_low a n a0 a1 w
  have CM : ∀ w, Calls Try.prog 68 #[.int .u64 b, .int .i64 n] w fun e w' => e = .returned (.int .u64 y) ∧ w = w' := fun w => by rw [← hy]; exact word_low b n b0 b1 w
  rw [hx, hy]
  have HCL := hide CL
  have HCM := hide CM
  clear CL CM hx hy
  obtain ⟨x0, x1⟩ := hxr
  obtain ⟨y0, y1⟩ := hyr
  obtain ⟨s, hs⟩ : ∃ s, wordSign x n = s := ⟨_, rfl⟩
  obtain ⟨t, ht⟩ : ∃ s, wordSign y n = s := ⟨_, rfl⟩
  have CL : ∀ w, Calls Try.prog 81 #[.int .u64 x, .int .i64 n] w fun e w' => e = .returned (.int .i64 s) ∧ w = w' := fun w => by rw [← hs]; exact word_sign x n x0 (by omega) w
  have CM : ∀ w, Calls Try.prog 81 #[.int .u64 y, .int .i64 n] w fun e w' => e = .returned (.int .i64 t) ∧ w = w' := fun w => by rw [← ht]; exact word_sign y n y0 (by omega) w
  rw [hs, ht]
  have SCL := hide CL
  have SCM := hide CM
  clear CL CM hs ht x1 y1
  by_cases hin : ¬ (c = 0 ∨ c = 1 ∨ c = 2 ∨ c = 3 ∨ c = 4 ∨ c = 5 ∨ c = 6 ∨ c = 7 ∨ c = 10 ∨ c = 11 ∨ c = 12 ∨ c = 13)
  · have e : askOf c x y s t = (false, 20) := by
      unfold askOf
      simp (disch := omega) only [if_neg]
    rw [e]
    clear e
    have d0 : (c == 0) = false := by simp; omega
    have d1 : (c == 1) = false := by simp; omega
    have d2 : (c == 2) = false := by simp; omega
    have d3 : (c == 3) = false := by simp; omega
    have d4 : (c == 4) = false := by simp; omega
    have d5 : (c == 5) = false := by simp; omega
    have d6 : (c == 6) = false := by simp; omega
    have d7 : (c == 7) = false := by simp; omega
    have d10 : (c == 10) = false := by simp; omega
    have d11 : (c == 11) = false := by simp; omega
    have d12 : (c == 12) = false := by simp; omega
    have d13 : (c == 13) = false := by simp; omega
    clear hin
    go_enter Try.func66, Try.ntmps66
    go_wp2_with fail
    refine (HS.out _).mono ?_
    rintro e w2 ⟨rfl, rfl⟩
    go_wp2_with fail
    refine (HCL.out _).mono ?_
    rintro e w2 ⟨rfl, rfl⟩
    go_wp2_with fail
    refine (HCM.out _).mono ?_
    rintro e w2 ⟨rfl, rfl⟩
    go_wp2_with fail
    go_ret2
    exact ⟨rfl, Below.refl _ _⟩
  · have hin := Decidable.not_not.1 hin
    rcases hin with rfl | rfl | rfl | rfl | rfl | rfl | rfl | rfl | rfl | rfl | rfl | rfl
    · have e : askOf 0 x y s t = (true, 0) := rfl
      obtain ⟨R, hR⟩ : ∃ R : Bool, (true) = R := ⟨_, rfl⟩
      have HE := hide e
      have HR := hide hR
      clear e hR
      go_enter Try.func66, Try.ntmps66
      go_wp2_with fail
      refine (HS.out _).mono ?_
      rintro e w2 ⟨rfl, rfl⟩
      go_wp2_with fail
      refine (HCL.out _).mono ?_
      rintro e w2 ⟨rfl, rfl⟩
      go_wp2_with fail
      refine (HCM.out _).mono ?_
      rintro e w2 ⟨rfl, rfl⟩
      go_wp2_with fail
      go_ret2
      refine ⟨?_, Below.refl _ _⟩
      rw [HE.out]
      rfl
    · have e : askOf 1 x y s t = (x == y, 0) := rfl
      obtain ⟨R, hR⟩ : ∃ R : Bool, (x == y) = R := ⟨_, rfl⟩
      have HE := hide e
      have HR := hide hR
      clear e hR
      go_enter Try.func66, Try.ntmps66
      go_wp2_with fail
      refine (HS.out _).mono ?_
      rintro e w2 ⟨rfl, rfl⟩
      go_wp2_with fail
      refine (HCL.out _).mono ?_
      rintro e w2 ⟨rfl, rfl⟩
      go_wp2_with fail
      refine (HCM.out _).mono ?_
      rintro e w2 ⟨rfl, rfl⟩
      go_wp2_with fail
      go_ret2
      refine ⟨?_, Below.refl _ _⟩
      rw [HE.out]
      rfl
    · have e : askOf 2 x y s t = (decide (y < x), 0) := rfl
      obtain ⟨R, hR⟩ : ∃ R : Bool, (decide (y < x)) = R := ⟨_, rfl⟩
      have HE := hide e
      have HR := hide hR
      clear e hR
      go_enter Try.func66, Try.ntmps66
      go_wp2_with fail
      refine (HS.out _).mono ?_
      rintro e w2 ⟨rfl, rfl⟩
      go_wp2_with fail
      refine (HCL.out _).mono ?_
      rintro e w2 ⟨rfl, rfl⟩
      go_wp2_with fail
      refine (HCM.out _).mono ?_
      rintro e w2 ⟨rfl, rfl⟩
      go_wp2_with fail
      refine (alu_compares_2 _ x y).mono ?_
      rintro e w2 ⟨rfl, rfl⟩
      go_wp2_with fail
      go_ret2
      refine ⟨?_, Below.refl _ _⟩
      rw [HE.out]
      rfl
    · have e : askOf 3 x y s t = (decide (y ≤ x), 0) := rfl
      obtain ⟨R, hR⟩ : ∃ R : Bool, (decide (y ≤ x)) = R := ⟨_, rfl⟩
      have HE := hide e
      have HR := hide hR
      clear e hR
      go_enter Try.func66, Try.ntmps66
      go_wp2_with fail
      refine (HS.out _).mono ?_
      rintro e w2 ⟨rfl, rfl⟩
      go_wp2_with fail
      refine (HCL.out _).mono ?_
      rintro e w2 ⟨rfl, rfl⟩
      go_wp2_with fail
      refine (HCM.out _).mono ?_
      rintro e w2 ⟨rfl, rfl⟩
      go_wp2_with fail
      refine (alu_compares_3 _ x y).mono ?_
      rintro e w2 ⟨rfl, rfl⟩
      go_wp2_with fail
      go_ret2
      refine ⟨?_, Below.refl _ _⟩
      rw [HE.out]
      rfl
    · have e : askOf 4 x y s t = (bits .and .u64 x y != 0, 0) := rfl
      obtain ⟨R, hR⟩ : ∃ R : Bool, (bits .and .u64 x y != 0) = R := ⟨_, rfl⟩
      have HE := hide e
      have HR := hide hR
      clear e hR
      go_enter Try.func66, Try.ntmps66
      go_wp2_with fail
      refine (HS.out _).mono ?_
      rintro e w2 ⟨rfl, rfl⟩
      go_wp2_with fail
      refine (HCL.out _).mono ?_
      rintro e w2 ⟨rfl, rfl⟩
      go_wp2_with fail
      refine (HCM.out _).mono ?_
      rintro e w2 ⟨rfl, rfl⟩
      go_wp2_with fail
      go_ret2
      refine ⟨?_, Below.refl _ _⟩
      rw [HE.out]
      rfl
    · have e : askOf 5 x y s t = (x != y, 0) := rfl
      obtain ⟨R, hR⟩ : ∃ R : Bool, (x != y) = R := ⟨_, rfl⟩
      have HE := hide e
      have HR := hide hR
      clear e hR
      go_enter Try.func66, Try.ntmps66
      go_wp2_with fail
      refine (HS.out _).mono ?_
      rintro e w2 ⟨rfl, rfl⟩
      go_wp2_with fail
      refine (HCL.out _).mono ?_
      rintro e w2 ⟨rfl, rfl⟩
      go_wp2_with fail
      refine (HCM.out _).mono ?_
      rintro e w2 ⟨rfl, rfl⟩
      go_wp2_with fail
      go_ret2
      refine ⟨?_, Below.refl _ _⟩
      rw [HE.out]
      rfl
    · have e : askOf 6 x y s t = (decide (t < s), 0) := rfl
      obtain ⟨R, hR⟩ : ∃ R : Bool, (decide (t < s)) = R := ⟨_, rfl⟩
      have HE := hide e
      have HR := hide hR
      clear e hR
      go_enter Try.func66, Try.ntmps66
      go_wp2_with fail
      refine (HS.out _).mono ?_
      rintro e w2 ⟨rfl, rfl⟩
      go_wp2_with fail
      refine (HCL.out _).mono ?_
      rintro e w2 ⟨rfl, rfl⟩
      go_wp2_with fail
      refine (HCM.out _).mono ?_
      rintro e w2 ⟨rfl, rfl⟩
      go_wp2_with fail
      refine (SCL.out _).mono ?_
      rintro e w2 ⟨rfl, rfl⟩
      go_wp2_with fail
      refine (SCM.out _).mono ?_
      rintro e w2 ⟨rfl, rfl⟩
      go_wp2_with fail
      refine (alu_compares_6 _ s t).mono ?_
      rintro e w2 ⟨rfl, rfl⟩
      go_wp2_with fail
      go_ret2
      refine ⟨?_, Below.refl _ _⟩
      rw [HE.out]
      rfl
    · have e : askOf 7 x y s t = (decide (t ≤ s), 0) := rfl
      obtain ⟨R, hR⟩ : ∃ R : Bool, (decide (t ≤ s)) = R := ⟨_, rfl⟩
      have HE := hide e
      have HR := hide hR
      clear e hR
      go_enter Try.func66, Try.ntmps66
      go_wp2_with fail
      refine (HS.out _).mono ?_
      rintro e w2 ⟨rfl, rfl⟩
      go_wp2_with fail
      refine (HCL.out _).mono ?_
      rintro e w2 ⟨rfl, rfl⟩
      go_wp2_with fail
      refine (HCM.out _).mono ?_
      rintro e w2 ⟨rfl, rfl⟩
      go_wp2_with fail
      refine (SCL.out _).mono ?_
      rintro e w2 ⟨rfl, rfl⟩
      go_wp2_with fail
      refine (SCM.out _).mono ?_
      rintro e w2 ⟨rfl, rfl⟩
      go_wp2_with fail
      refine (alu_compares_7 _ s t).mono ?_
      rintro e w2 ⟨rfl, rfl⟩
      go_wp2_with fail
      go_ret2
      refine ⟨?_, Below.refl _ _⟩
      rw [HE.out]
      rfl
    · have e : askOf 10 x y s t = (decide (x < y), 0) := rfl
      obtain ⟨R, hR⟩ : ∃ R : Bool, (decide (x < y)) = R := ⟨_, rfl⟩
      have HE := hide e
      have HR := hide hR
      clear e hR
      go_enter Try.func66, Try.ntmps66
      go_wp2_with fail
      refine (HS.out _).mono ?_
      rintro e w2 ⟨rfl, rfl⟩
      go_wp2_with fail
      refine (HCL.out _).mono ?_
      rintro e w2 ⟨rfl, rfl⟩
      go_wp2_with fail
      refine (HCM.out _).mono ?_
      rintro e w2 ⟨rfl, rfl⟩
      go_wp2_with fail
      refine (alu_compares_10 _ x y).mono ?_
      rintro e w2 ⟨rfl, rfl⟩
      go_wp2_with fail
      go_ret2
      refine ⟨?_, Below.refl _ _⟩
      rw [HE.out]
      rfl
    · have e : askOf 11 x y s t = (decide (x ≤ y), 0) := rfl
      obtain ⟨R, hR⟩ : ∃ R : Bool, (decide (x ≤ y)) = R := ⟨_, rfl⟩
      have HE := hide e
      have HR := hide hR
      clear e hR
      go_enter Try.func66, Try.ntmps66
      go_wp2_with fail
      refine (HS.out _).mono ?_
      rintro e w2 ⟨rfl, rfl⟩
      go_wp2_with fail
      refine (HCL.out _).mono ?_
      rintro e w2 ⟨rfl, rfl⟩
      go_wp2_with fail
      refine (HCM.out _).mono ?_
      rintro e w2 ⟨rfl, rfl⟩
      go_wp2_with fail
      refine (alu_compares_11 _ x y).mono ?_
      rintro e w2 ⟨rfl, rfl⟩
      go_wp2_with fail
      go_ret2
      refine ⟨?_, Below.refl _ _⟩
      rw [HE.out]
      rfl
    · have e : askOf 12 x y s t = (decide (s < t), 0) := rfl
      obtain ⟨R, hR⟩ : ∃ R : Bool, (decide (s < t)) = R := ⟨_, rfl⟩
      have HE := hide e
      have HR := hide hR
      clear e hR
      go_enter Try.func66, Try.ntmps66
      go_wp2_with fail
      refine (HS.out _).mono ?_
      rintro e w2 ⟨rfl, rfl⟩
      go_wp2_with fail
      refine (HCL.out _).mono ?_
      rintro e w2 ⟨rfl, rfl⟩
      go_wp2_with fail
      refine (HCM.out _).mono ?_
      rintro e w2 ⟨rfl, rfl⟩
      go_wp2_with fail
      refine (SCL.out _).mono ?_
      rintro e w2 ⟨rfl, rfl⟩
      go_wp2_with fail
      refine (SCM.out _).mono ?_
      rintro e w2 ⟨rfl, rfl⟩
      go_wp2_with fail
      refine (alu_compares_12 _ s t).mono ?_
      rintro e w2 ⟨rfl, rfl⟩
      go_wp2_with fail
      go_ret2
      refine ⟨?_, Below.refl _ _⟩
      rw [HE.out]
      rfl
    · have e : askOf 13 x y s t = (decide (s ≤ t), 0) := rfl
      obtain ⟨R, hR⟩ : ∃ R : Bool, (decide (s ≤ t)) = R := ⟨_, rfl⟩
      have HE := hide e
      have HR := hide hR
      clear e hR
      go_enter Try.func66, Try.ntmps66
      go_wp2_with fail
      refine (HS.out _).mono ?_
      rintro e w2 ⟨rfl, rfl⟩
      go_wp2_with fail
      refine (HCL.out _).mono ?_
      rintro e w2 ⟨rfl, rfl⟩
      go_wp2_with fail
      refine (HCM.out _).mono ?_
      rintro e w2 ⟨rfl, rfl⟩
      go_wp2_with fail
      refine (SCL.out _).mono ?_
      rintro e w2 ⟨rfl, rfl⟩
      go_wp2_with fail
      refine (SCM.out _).mono ?_
      rintro e w2 ⟨rfl, rfl⟩
      go_wp2_with fail
      refine (alu_compares_13 _ s t).mono ?_
      rintro e w2 ⟨rfl, rfl⟩
      go_wp2_with fail
      go_ret2
      refine ⟨?_, Below.refl _ _⟩
      rw [HE.out]
      rfl

end Go.Proofs.Ytcddpmiandgkjaa
