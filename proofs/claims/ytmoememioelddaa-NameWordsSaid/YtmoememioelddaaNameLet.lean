import Derived.Test.YtmoememioelddaaBase
import Derived.Test.YtmoememioelddaaWf
import Derived.Test.YtmoememioelddaaShelf
import Derived.Test.YtmoememioelddaaNamePure
import Derived.Lib.OthersKept
/-! Package name, walked. -/
namespace Go.Proofs.Ytmoememioelddaa
open Go.RowKit
set_option maxHeartbeats 2000000
set_option maxRecDepth 100000

theorem name_letter_1 (w : World) (b : Nat) (r : Int) (hc : w.cell? ⟨b, 0, none⟩ = some (.int .i32 r)) (q : Bool) (hq : letterTest r 0 = q) :
    Calls Try.prog 28 #[.pointer (some ⟨b, 0, none⟩)] w fun e w' => e = .returned (.bool q) ∧ w = w' := by
  subst hq
  unfold letterTest
  by_cases h : 97 ≤ r
  · have d : decide (97 ≤ r) = true := decide_eq_true h
    go_enter Try.func28, Try.ntmps28
    go_wp2
    go_ret
    exact ⟨by rw [d]; rfl, rfl⟩
  · have d : decide (97 ≤ r) = false := decide_eq_false h
    go_enter Try.func28, Try.ntmps28
    go_wp2
    go_ret
    exact ⟨rfl, rfl⟩

theorem name_letter_2 (w : World) (b : Nat) (r : Int) (hc : w.cell? ⟨b, 0, none⟩ = some (.int .i32 r)) (q : Bool) (hq : letterTest r 1 = q) :
    Calls Try.prog 29 #[.pointer (some ⟨b, 0, none⟩)] w fun e w' => e = .returned (.bool q) ∧ w = w' := by
  subst hq
  unfold letterTest
  by_cases h : 65 ≤ r
  · have d : decide (65 ≤ r) = true := decide_eq_true h
    go_enter Try.func29, Try.ntmps29
    go_wp2
    go_ret
    exact ⟨by rw [d]; rfl, rfl⟩
  · have d : decide (65 ≤ r) = false := decide_eq_false h
    go_enter Try.func29, Try.ntmps29
    go_wp2
    go_ret
    exact ⟨rfl, rfl⟩

theorem name_letter_3 (w : World) (b : Nat) (r : Int) (hc : w.cell? ⟨b, 0, none⟩ = some (.int .i32 r)) (q : Bool) (hq : letterTest r 2 = q) :
    Calls Try.prog 30 #[.pointer (some ⟨b, 0, none⟩)] w fun e w' => e = .returned (.bool q) ∧ w = w' := by
  subst hq
  unfold letterTest
  go_enter Try.func30, Try.ntmps30
  go_wp2
  go_ret
  exact ⟨rfl, rfl⟩

theorem name_letter_4 (w : World) (b : Nat) (r : Int) (hc : w.cell? ⟨b, 0, none⟩ = some (.int .i32 r)) (q : Bool) (hq : letterTest r 3 = q) :
    Calls Try.prog 31 #[.pointer (some ⟨b, 0, none⟩)] w fun e w' => e = .returned (.bool q) ∧ w = w' := by
  subst hq
  unfold letterTest
  by_cases h : 192 ≤ r
  · have d : decide (192 ≤ r) = true := decide_eq_true h
    by_cases h1 : r = 215
    · have d1 : (r != 215) = false := by simp [h1]
      have HH := hide h1
      clear h1
      go_enter Try.func31, Try.ntmps31
      go_wp2
      go_ret
      exact ⟨by simp [HH.out], rfl⟩
    · have d1 : (r != 215) = true := by simp [h1]
      have HH := hide h1
      clear h1
      by_cases h2 : r = 247
      · have d2 : (r != 247) = false := by simp [h2]
        have HG := hide h2
        clear h2
        go_enter Try.func31, Try.ntmps31
        go_wp2
        go_ret
        exact ⟨by simp [HG.out], rfl⟩
      · have d2 : (r != 247) = true := by simp [h2]
        have HG := hide h2
        clear h2
        obtain ⟨v, hv⟩ : ∃ v, Lib.validRune r = v := ⟨_, rfl⟩
        have C := hide (fun w => hv ▸ Try.utf8_ValidRune r w)
        have HV := hide hv
        clear hv
        go_enter Try.func31, Try.ntmps31
        go_wp2_with fail
        refine (C.out _).mono ?_
        rintro e w2 ⟨rfl, rfl⟩
        go_wp2_with fail
        go_ret
        refine ⟨?_, rfl⟩
        rw [d, d1, d2, HV.out]
        cases v <;> rfl
  · have d : decide (192 ≤ r) = false := decide_eq_false h
    go_enter Try.func31, Try.ntmps31
    go_wp2
    go_ret
    exact ⟨rfl, rfl⟩

def BoolPost (w : World) (q : Bool) (e : Ending) (w' : World) : Prop := e = .returned (.bool q) ∧ Below w.heap.size w w'

theorem name_letter (w : World) (r : Int) : Calls Try.prog 17 #[.int .i32 r] w (BoolPost w (isLetter r)) := by
  go_enter Try.func17, Try.ntmps17
  go_wp2_with fail
  have h0 : Has ((w.alloc (.cells #[.int .i32 r] 21)).alloc (.cells #[.func (.func 28) #[] #[.pointer (some ⟨w.heap.size, 0, none⟩)], .func (.func 29) #[] #[.pointer (some ⟨w.heap.size, 0, none⟩)], .func (.func 30) #[] #[.pointer (some ⟨w.heap.size, 0, none⟩)], .func (.func 31) #[] #[.pointer (some ⟨w.heap.size, 0, none⟩)]] 22)) w.heap.size 21 #[.int .i32 r] := (Has.new w _ _).alloc _
  have h1 : Has ((w.alloc (.cells #[.int .i32 r] 21)).alloc (.cells #[.func (.func 28) #[] #[.pointer (some ⟨w.heap.size, 0, none⟩)], .func (.func 29) #[] #[.pointer (some ⟨w.heap.size, 0, none⟩)], .func (.func 30) #[] #[.pointer (some ⟨w.heap.size, 0, none⟩)], .func (.func 31) #[] #[.pointer (some ⟨w.heap.size, 0, none⟩)]] 22)) (w.heap.size + 1) 22 #[.func (.func 28) #[] #[.pointer (some ⟨w.heap.size, 0, none⟩)], .func (.func 29) #[] #[.pointer (some ⟨w.heap.size, 0, none⟩)], .func (.func 30) #[] #[.pointer (some ⟨w.heap.size, 0, none⟩)], .func (.func 31) #[] #[.pointer (some ⟨w.heap.size, 0, none⟩)]] := by
    have := Has.new (w.alloc (.cells #[.int .i32 r] 21)) 22 #[.func (.func 28) #[] #[.pointer (some ⟨w.heap.size, 0, none⟩)], .func (.func 29) #[] #[.pointer (some ⟨w.heap.size, 0, none⟩)], .func (.func 30) #[] #[.pointer (some ⟨w.heap.size, 0, none⟩)], .func (.func 31) #[] #[.pointer (some ⟨w.heap.size, 0, none⟩)]]
    rwa [World.size_alloc] at this
  have hB : Below w.heap.size w ((w.alloc (.cells #[.int .i32 r] 21)).alloc (.cells #[.func (.func 28) #[] #[.pointer (some ⟨w.heap.size, 0, none⟩)], .func (.func 29) #[] #[.pointer (some ⟨w.heap.size, 0, none⟩)], .func (.func 30) #[] #[.pointer (some ⟨w.heap.size, 0, none⟩)], .func (.func 31) #[] #[.pointer (some ⟨w.heap.size, 0, none⟩)]] 22)) := ((Below.refl _ _).alloc (Nat.le_refl _) _).alloc (by simp) _
  obtain ⟨W, hW⟩ : ∃ W, ((w.alloc (.cells #[.int .i32 r] 21)).alloc (.cells #[.func (.func 28) #[] #[.pointer (some ⟨w.heap.size, 0, none⟩)], .func (.func 29) #[] #[.pointer (some ⟨w.heap.size, 0, none⟩)], .func (.func 30) #[] #[.pointer (some ⟨w.heap.size, 0, none⟩)], .func (.func 31) #[] #[.pointer (some ⟨w.heap.size, 0, none⟩)]] 22)) = W := ⟨_, rfl⟩
  rw [hW] at h0 h1 hB
  rw [hW]
  clear hW
  obtain ⟨q, hq⟩ : ∃ q, w.heap.size = q := ⟨_, rfl⟩
  have HB := hide hB
  have HQ := hide hq
  rw [hq] at h0 h1
  rw [hq]
  clear hB hq
  have c0 := h0.cell 0
  have k0 := h1.cell 0
  have k1 := h1.cell 1
  have k2 := h1.cell 2
  have k3 := h1.cell 3
  simp at c0 k0 k1 k2 k3
  have H0 := hide c0
  clear h0 h1 c0
  go_loop [11] (fun i => ∃ k : Nat, k ≤ 4 ∧ i = .int .i64 k ∧ ∀ j, j < k → letterTest r j = false) (fun i => 4 - (intOf i).toNat)
  case atStart => exact ⟨0, by omega, rfl, fun j hj => by omega⟩
  case round =>
    obtain ⟨k, hk, rfl, hall⟩ := hrel
    have HA := hide hall
    clear hall
    by_cases hlt : k < 4
    · rcases (show k = 0 ∨ k = 1 ∨ k = 2 ∨ k = 3 by omega) with rfl | rfl | rfl | rfl
      · by_cases hb : letterTest r 0 = true
        · have HH := hide hb
          clear hb
          go_wp2_with fail
          refine (name_letter_1 _ q r H0.out true HH.out).mono ?_
          rintro e w2 ⟨rfl, rfl⟩
          go_wp2_with fail
          go_ret
          exact ⟨by rw [isLetter_of (by decide) HH.out]; rfl, HB.out⟩
        · have HH := hide (Bool.eq_false_iff.2 hb)
          clear hb
          go_wp2_with fail
          refine (name_letter_1 _ q r H0.out false HH.out).mono ?_
          rintro e w2 ⟨rfl, rfl⟩
          go_wp2_with fail
          go_round
          case rel =>
            refine ⟨1, by omega, by go_num, fun j hj => ?_⟩
            rcases Nat.lt_or_ge j 0 with h | h
            · exact HA.out j h
            · obtain rfl : j = 0 := by omega
              exact HH.out
          case measure => simp [intOf]
      · by_cases hb : letterTest r 1 = true
        · have HH := hide hb
          clear hb
          go_wp2_with fail
          refine (name_letter_2 _ q r H0.out true HH.out).mono ?_
          rintro e w2 ⟨rfl, rfl⟩
          go_wp2_with fail
          go_ret
          exact ⟨by rw [isLetter_of (by decide) HH.out]; rfl, HB.out⟩
        · have HH := hide (Bool.eq_false_iff.2 hb)
          clear hb
          go_wp2_with fail
          refine (name_letter_2 _ q r H0.out false HH.out).mono ?_
          rintro e w2 ⟨rfl, rfl⟩
          go_wp2_with fail
          go_round
          case rel =>
            refine ⟨2, by omega, by go_num, fun j hj => ?_⟩
            rcases Nat.lt_or_ge j 1 with h | h
            · exact HA.out j h
            · obtain rfl : j = 1 := by omega
              exact HH.out
          case measure => simp [intOf]
      · by_cases hb : letterTest r 2 = true
        · have HH := hide hb
          clear hb
          go_wp2_with fail
          refine (name_letter_3 _ q r H0.out true HH.out).mono ?_
          rintro e w2 ⟨rfl, rfl⟩
          go_wp2_with fail
          go_ret
          exact ⟨by rw [isLetter_of (by decide) HH.out]; rfl, HB.out⟩
        · have HH := hide (Bool.eq_false_iff.2 hb)
          clear hb
          go_wp2_with fail
          refine (name_letter_3 _ q r H0.out false HH.out).mono ?_
          rintro e w2 ⟨rfl, rfl⟩
          go_wp2_with fail
          go_round
          case rel =>
            refine ⟨3, by omega, by go_num, fun j hj => ?_⟩
            rcases Nat.lt_or_ge j 2 with h | h
            · exact HA.out j h
            · obtain rfl : j = 2 := by omega
              exact HH.out
          case measure => simp [intOf]
      · by_cases hb : letterTest r 3 = true
        · have HH := hide hb
          clear hb
          go_wp2_with fail
          refine (name_letter_4 _ q r H0.out true HH.out).mono ?_
          rintro e w2 ⟨rfl, rfl⟩
          go_wp2_with fail
          go_ret
          exact ⟨by rw [isLetter_of (by decide) HH.out]; rfl, HB.out⟩
        · have HH := hide (Bool.eq_false_iff.2 hb)
          clear hb
          go_wp2_with fail
          refine (name_letter_4 _ q r H0.out false HH.out).mono ?_
          rintro e w2 ⟨rfl, rfl⟩
          go_wp2_with fail
          go_round
          case rel =>
            refine ⟨4, by omega, by go_num, fun j hj => ?_⟩
            rcases Nat.lt_or_ge j 3 with h | h
            · exact HA.out j h
            · obtain rfl : j = 3 := by omega
              exact HH.out
          case measure => simp [intOf]
    · obtain rfl : k = 4 := by omega
      go_wp2_with fail
      go_ret
      exact ⟨by rw [isLetter_none HA.out]; rfl, HB.out⟩

theorem name_digit (w : World) (r : Int) : Calls Try.prog 22 #[.int .i32 r] w fun e w' => e = .returned (.bool (isDigit r)) ∧ w = w' := by
  unfold isDigit
  by_cases h : 48 ≤ r
  · have d : decide (48 ≤ r) = true := decide_eq_true h
    go_enter Try.func22, Try.ntmps22
    go_wp2
    go_ret
    exact ⟨by rw [d]; rfl, rfl⟩
  · have d : decide (48 ≤ r) = false := decide_eq_false h
    go_enter Try.func22, Try.ntmps22
    go_wp2
    go_ret
    exact ⟨rfl, rfl⟩

end Go.Proofs.Ytmoememioelddaa
