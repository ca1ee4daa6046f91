/- Types: lemmas on what the functions that the laws reach answer. No conditions of their own beyond those that each theorem states. -/
import Derived.Test.YtkflofjcjolehaaBig0
import Derived.Test.YtkflofjcjolehaaBig3
import Derived.Test.YtkflofjcjolehaaBig8
import Derived.Test.YtkflofjcjolehaaBig9
import Derived.Lib.OthersKept
/-! Package name, walked. -/
namespace Go.Proofs.Ytkflofjcjolehaa
open Go.RowKit
set_option maxHeartbeats 2000000
set_option maxRecDepth 100000

theorem name_letter_1 (w : World) (b : Nat) (r : Int) (hc : w.cell? ⟨b, 0, none⟩ = some (.int .i32 r)) (q : Bool) (hq : letterTest r 0 = q) :
    Calls Try.prog 88 #[.pointer (some ⟨b, 0, none⟩)] w fun e w' => e = .returned (.bool q) ∧ w = w' := by
  subst hq
  unfold letterTest
  by_cases h : 97 ≤ r
  · have d : decide (97 ≤ r) = true := decide_eq_true h
    go_enter Try.func88, Try.ntmps88
    go_wp2
    go_ret
    exact ⟨by rw [d]; rfl, rfl⟩
  · have d : decide (97 ≤ r) = false := decide_eq_false h
    go_enter Try.func88, Try.ntmps88
    go_wp2
    go_ret
    exact ⟨rfl, rfl⟩

theorem name_letter_2 (w : World) (b : Nat) (r : Int) (hc : w.cell? ⟨b, 0, none⟩ = some (.int .i32 r)) (q : Bool) (hq : letterTest r 1 = q) :
    Calls Try.prog 89 #[.pointer (some ⟨b, 0, none⟩)] w fun e w' => e = .returned (.bool q) ∧ w = w' := by
  subst hq
  unfold letterTest
  by_cases h : 65 ≤ r
  · have d : decide (65 ≤ r) = true := decide_eq_true h
    go_enter Try.func89, Try.ntmps89
    go_wp2
    go_ret
    exact ⟨by rw [d]; rfl, rfl⟩
  · have d : decide (65 ≤ r) = false := decide_eq_false h
    go_enter Try.func89, Try.ntmps89
    go_wp2
    go_ret
    exact ⟨rfl, rfl⟩

theorem name_letter_3 (w : World) (b : Nat) (r : Int) (hc : w.cell? ⟨b, 0, none⟩ = some (.int .i32 r)) (q : Bool) (hq : letterTest r 2 = q) :
    Calls Try.prog 90 #[.pointer (some ⟨b, 0, none⟩)] w fun e w' => e = .returned (.bool q) ∧ w = w' := by
  subst hq
  unfold letterTest
  go_enter Try.func90, Try.ntmps90
  go_wp2
  go_ret
  exact ⟨rfl, rfl⟩

theorem name_letter_4 (w : World) (b : Nat) (r : Int) (hc : w.cell? ⟨b, 0, none⟩ = some (.int .i32 r)) (q : Bool) (hq : letterTest r 3 = q) :
    Calls Try.prog 91 #[.pointer (some ⟨b, 0, none⟩)] w fun e w' => e = .returned (.bool q) ∧ w = w' := by
  subst hq
  unfold letterTest
  by_cases h : 192 ≤ r
  · have d : decide (192 ≤ r) = true := decide_eq_true h
    by_cases h1 : r = 215
    · have d1 : (r != 215) = false := by simp [h1]
      have HH := hide h1
      clear h1
      go_enter Try.func91, Try.ntmps91
      go_wp2
      go_ret
      exact ⟨by simp [HH.out], rfl⟩
    · have d1 : (r != 215) = true := by simp [h1]
      have HH := hide h1
      clear h1
      by_cases h2 : r = 247
      · have d2 : (r != 247) = false := by simp [h2]
        have HG := hide h2
        clear h2
        go_enter Try.func91, Try.ntmps91
        go_wp2
        go_ret
        exact ⟨by simp [HG.out], rfl⟩
      · have d2 : (r != 247) = true := by simp [h2]
        have HG := hide h2
        clear h2
        obtain ⟨v, hv⟩ : ∃ v, Lib.validRune r = v := ⟨_, rfl⟩
        have C := hide (fun w => hv ▸ Try.utf8_ValidRune r w)
        have HV := hide hv
        clear hv
        go_enter Try.func91, Try.ntmps91
        go_wp2_with fail
        refine (C.out _).mono ?_
        rintro e w2 ⟨rfl, rfl⟩
        go_wp2_with fail
        go_ret
        refine ⟨?_, rfl⟩
        rw [d, d1, d2, HV.out]
        cases v <;> rfl
  · have d : decide (192 ≤ r) = false := decide_eq_false h
    go_enter Try.func91, Try.ntmps91
    go_wp2
    go_ret
    exact ⟨rfl, rfl⟩

def BoolPost (w : World) (q : Bool) (e : Ending) (w' : World) : Prop := e = .returned (.bool q) ∧ Below w.heap.size w w'

theorem name_letter (w : World) (r : Int) : Calls Try.prog 79 #[.int .i32 r] w (BoolPost w (isLetter r)) := by
  go_enter Try.func79, Try.ntmps79
  go_wp2_with fail
  have h0 : Has ((w.alloc (.cells #[.int .i32 r] 21)).alloc (.cells #[.func (.func 88) #[] #[.pointer (some ⟨w.heap.size, 0, none⟩)], .func (.func 89) #[] #[.pointer (some ⟨w.heap.size, 0, none⟩)], .func (.func 90) #[] #[.pointer (some ⟨w.heap.size, 0, none⟩)], .func (.func 91) #[] #[.pointer (some ⟨w.heap.size, 0, none⟩)]] 24)) w.heap.size 21 #[.int .i32 r] := (Has.new w _ _).alloc _
  have h1 : Has ((w.alloc (.cells #[.int .i32 r] 21)).alloc (.cells #[.func (.func 88) #[] #[.pointer (some ⟨w.heap.size, 0, none⟩)], .func (.func 89) #[] #[.pointer (some ⟨w.heap.size, 0, none⟩)], .func (.func 90) #[] #[.pointer (some ⟨w.heap.size, 0, none⟩)], .func (.func 91) #[] #[.pointer (some ⟨w.heap.size, 0, none⟩)]] 24)) (w.heap.size + 1) 24 #[.func (.func 88) #[] #[.pointer (some ⟨w.heap.size, 0, none⟩)], .func (.func 89) #[] #[.pointer (some ⟨w.heap.size, 0, none⟩)], .func (.func 90) #[] #[.pointer (some ⟨w.heap.size, 0, none⟩)], .func (.func 91) #[] #[.pointer (some ⟨w.heap.size, 0, none⟩)]] := by
    have := Has.new (w.alloc (.cells #[.int .i32 r] 21)) 24 #[.func (.func 88) #[] #[.pointer (some ⟨w.heap.size, 0, none⟩)], .func (.func 89) #[] #[.pointer (some ⟨w.heap.size, 0, none⟩)], .func (.func 90) #[] #[.pointer (some ⟨w.heap.size, 0, none⟩)], .func (.func 91) #[] #[.pointer (some ⟨w.heap.size, 0, none⟩)]]
    rwa [World.size_alloc] at this
  have hB : Below w.heap.size w ((w.alloc (.cells #[.int .i32 r] 21)).alloc (.cells #[.func (.func 88) #[] #[.pointer (some ⟨w.heap.size, 0, none⟩)], .func (.func 89) #[] #[.pointer (some ⟨w.heap.size, 0, none⟩)], .func (.func 90) #[] #[.pointer (some ⟨w.heap.size, 0, none⟩)], .func (.func 91) #[] #[.pointer (some ⟨w.heap.size, 0, none⟩)]] 24)) := ((Below.refl _ _).alloc (Nat.le_refl _) _).alloc (by simp) _
  obtain ⟨W, hW⟩ : ∃ W, ((w.alloc (.cells #[.int .i32 r] 21)).alloc (.cells #[.func (.func 88) #[] #[.pointer (some ⟨w.heap.size, 0, none⟩)], .func (.func 89) #[] #[.pointer (some ⟨w.heap.size, 0, none⟩)], .func (.func 90) #[] #[.pointer (some ⟨w.heap.size, 0, none⟩)], .func (.func 91) #[] #[.pointer (some ⟨w.heap.size, 0, none⟩)]] 24)) = W := ⟨_, rfl⟩
  rw [hW] at h0 h1 hB
  rw [hW]
  clear hW
  obtain ⟨q, hq⟩ : ∃ q, w.heap.size = q := ⟨_, rfl⟩
  have HB := hide hB
  have HQ := hide hq
  rw [hq] at h0 h1
  rw [hq]
  clear hB hq
  have c0 := h0.cell 0
  have k0 := h1.cell 0
  have k1 := h1.cell 1
  have k2 := h1.cell 2
  have k3 := h1.cell 3
  simp at c0 k0 k1 k2 k3
  have H0 := hide c0
  clear h0 h1 c0
  go_loop [11] (fun i => ∃ k : Nat, k ≤ 4 ∧ i = .int .i64 k ∧ ∀ j, j < k → letterTest r j = false) (fun i => 4 - (intOf i).toNat)
  case atStart => exact ⟨0, by omega, rfl, fun j hj => by omega⟩
  case round =>
    obtain ⟨k, hk, rfl, hall⟩ := hrel
    have HA := hide hall
    clear hall
    by_cases hlt : k < 4
    · rcases (show k = 0 ∨ k = 1 ∨ k = 2 ∨ k = 3 by omega) with rfl | rfl | rfl | rfl
      · by_cases hb : letterTest r 0 = true
        · have HH := hide hb
          clear hb
          go_wp2_with fail
          refine (name_letter_1 _ q r H0.out true HH.out).mono ?_
          rintro e w2 ⟨rfl, rfl⟩
          go_wp2_with fail
          go_ret
          exact ⟨by rw [isLetter_of (by decide) HH.out]; rfl, HB.out⟩
        · have HH := hide (Bool.eq_false_iff.2 hb)
          clear hb
          go_wp2_with fail
          refine (name_letter_1 _ q r H0.out false HH.out).mono ?_
          rintro e w2 ⟨rfl, rfl⟩
          go_wp2_with fail
          go_round
          case rel =>
            refine ⟨1, by omega, by go_num, fun j hj => ?_⟩
            rcases Nat.lt_or_ge j 0 with h | h
            · exact HA.out j h
            · obtain rfl : j = 0 := by omega
              exact HH.out
          case measure => simp [intOf]
      · by_cases hb : letterTest r 1 = true
        · have HH := hide hb
          clear hb
          go_wp2_with fail
          refine (name_letter_2 _ q r H0.out true HH.out).mono ?_
          rintro e w2 ⟨rfl, rfl⟩
          go_wp2_with fail
          go_ret
          exact ⟨by rw [isLetter_of (by decide) HH.out]; rfl, HB.out⟩
        · have HH := hide (Bool.eq_false_iff.2 hb)
          clear hb
          go_wp2_with fail
          refine (name_letter_2 _ q r H0.out false HH.out).mono ?_
          rintro e w2 ⟨rfl, rfl⟩
          go_wp2_with fail
          go_round
          case rel =>
            refine ⟨2, by omega, by go_num, fun j hj => ?_⟩
            rcases Nat.lt_or_ge j 1 with h | h
            · exact HA.out j h
            · obtain rfl : j = 1 := by omega
              exact HH.out
          case measure => simp [intOf]
      · by_cases hb : letterTest r 2 = true
        · have HH := hide hb
          clear hb
          go_wp2_with fail
          refine (name_letter_3 _ q r H0.out true HH.out).mono ?_
          rintro e w2 ⟨rfl, rfl⟩
          go_wp2_with fail
          go_ret
          exact ⟨by rw [isLetter_of (by decide) HH.out]; rfl, HB.out⟩
        · have HH := hide (Bool.eq_false_iff.2 hb)
          clear hb
          go_wp2_with fail
          refine (name_letter_3 _ q r H0.out false HH.out).mono ?_
          rintro e w2 ⟨rfl, rfl⟩
          go_wp2_with fail
          go_round
          case rel =>
            refine ⟨3, by omega, by go_num, fun j hj => ?_⟩
            rcases Nat.lt_or_ge j 2 with h | h
            · exact HA.out j h
            · obtain rfl : j = 2 := by omega
              exact HH.out
          case measure => simp [intOf]
      · by_cases hb : letterTest r 3 = true
        · have HH := hide hb
          clear hb
          go_wp2_with fail
          refine (name_letter_4 _ q r H0.out true HH.out).mono ?_
          rintro e w2 ⟨rfl, rfl⟩
          go_wp2_with fail
          go_ret
          exact ⟨by rw [isLetter_of (by decide) HH.out]; rfl, HB.out⟩
        · have HH := hide (Bool.eq_false_iff.2 hb)
          clear hb
          go_wp2_with fail
          refine (name_letter_4 _ q r H0.out false HH.out).mono ?_
          rintro e w2 ⟨rfl, rfl⟩
          go_wp2_with fail
          go_round
          case rel =>
            refine ⟨4, by omega, by go_num, fun j hj => ?_⟩
            rcases Nat.lt_or_ge j 3 with h | h
            · exact HA.out j h
            · obtain rfl : j = 3 := by omega
              exact HH.out
          case measure => simp [intOf]
    · obtain rfl : k = 4 := by omega
      go_wp2_with fail
      go_ret
      exact ⟨by rw [isLetter_none HA.out]; rfl, HB.out⟩

theorem name_digit (w : World) (r : Int) : Calls Try.prog 80 #[.int .i32 r] w fun e w' => e = .returned (.bool (isDigit r)) ∧ w = w' := by
  unfold isDigit
  by_cases h : 48 ≤ r
  · have d : decide (48 ≤ r) = true := decide_eq_true h
    go_enter Try.func80, Try.ntmps80
    go_wp2
    go_ret
    exact ⟨by rw [d]; rfl, rfl⟩
  · have d : decide (48 ≤ r) = false := decide_eq_false h
    go_enter Try.func80, Try.ntmps80
    go_wp2
    go_ret
    exact ⟨rfl, rfl⟩

end Go.Proofs.Ytkflofjcjolehaa

/-! name.Runes, name.May, name.Compare, walked. -/
namespace Go.Proofs.Ytkflofjcjolehaa
open Go.RowKit
set_option maxHeartbeats 2000000
set_option maxRecDepth 100000

def IntPost (w : World) (q : Int) (e : Ending) (w' : World) : Prop := e = .returned (.int .i64 q) ∧ Below w.heap.size w w'

theorem name_runes (w : World) (s : ByteArray) (hs : s.size ≤ 9223372036854775806) : Calls Try.prog 78 #[.string s] w (IntPost w (runesOf s)) := by
  have wrl : World.iter w s 0 = World.iter w s 0 := rfl
  obtain ⟨R, hR⟩ : ∃ R, runesOf s = R := ⟨_, rfl⟩
  have HR := hide hR
  rw [hR]
  clear hR wrl
  go_enter Try.func78, Try.ntmps78
  go_wp2_with fail
  go_loopw [2] (fun n wr => ∃ (pos f : Nat) (acc : Int), wr.heap[w.heap.size]? = some (.stringIter s pos) ∧ Below w.heap.size w wr ∧ n = .int .i64 acc ∧ 0 ≤ acc ∧ acc ≤ pos ∧ pos ≤ s.size + 4 ∧ cntAt s f pos acc = R ∧ s.size ≤ pos + f) (fun _ wr => s.size - wr.iterPos w.heap.size)
  case atStart => exact ⟨0, s.size, 0, World.iter_heap w s 0, (Below.refl _ _).alloc (Nat.le_refl _) _, rfl, by omega, by omega, by omega, HR.out, by omega⟩
  case round =>
    obtain ⟨pos, f, acc, hit, hB, rfl, ha0, ha1, hps, hcnt, hf⟩ := hrel
    have hsz : w.heap.size < wr.heap.size := (Array.getElem?_eq_some_iff.1 hit).1
    by_cases hp : pos < s.size
    · obtain ⟨f, rfl⟩ : ∃ g, f = g + 1 := ⟨f - 1, by omega⟩
      have hnx : ∀ ty, (Instr.next (.pointer (some ⟨w.heap.size, 0, none⟩)) true ty).run Try.prog wr = _ := fun ty => Lib.run_next_any_at wr w.heap.size s pos ty hit hp
      have hwd := width_pos s pos hp
      have hw4 := width_le s pos
      have hit2 := Lib.iterAt_heap wr w.heap.size s pos (pos + (Utf8.decode s pos).2) hit
      have hB2 := Lib.below_iterAt hB (k := w.heap.size) (Nat.le_refl _) s (pos + (Utf8.decode s pos).2)
      have hstep := cntAt_step s f pos acc hp
      rw [hcnt] at hstep
      have HS := hide hstep
      have HI := hide hit2
      have HB2 := hide hB2
      have PR := hide (prefix_bad s pos hp)
      have hit := hide hit
      clear hcnt hstep hit2 hB2
      have hle : (0 : Int) ≤ (pos : Int) := by omega
      have hle2 : (pos : Int) ≤ (s.size : Int) := by omega
      by_cases hr : (Utf8.decode s pos).1 = 65533
      · have d0 : (((Utf8.decode s pos).1 : Int) == 65533) = true := by rw [hr]; rfl
        cases hbad : badAt s pos with
        | true =>
          have hp1 : Lib.hasPrefix (s.extract pos s.size).data.toList [239, 191, 189] = false := by rw [PR.out hr, hbad]; rfl
          have C := hide (fun w => hp1 ▸ Try.strings_HasPrefix (s.extract pos s.size) ⟨#[239, 191, 189]⟩ w)
          have HH := hide (And.intro hr hbad)
          clear hp1 hr hbad
          go_wp2_with fail
          refine (C.out _).mono ?_
          rintro e w2 ⟨rfl, rfl⟩
          go_wp2_with fail
          go_ret
          refine ⟨?_, HB2.out⟩
          rw [HS.out, HH.out.2]
          rfl
        | false =>
          have hp1 : Lib.hasPrefix (s.extract pos s.size).data.toList [239, 191, 189] = true := by rw [PR.out hr, hbad]; rfl
          have C := hide (fun w => hp1 ▸ Try.strings_HasPrefix (s.extract pos s.size) ⟨#[239, 191, 189]⟩ w)
          have HH := hide (And.intro hr hbad)
          clear hp1 hr hbad
          go_wp2_with fail
          refine (C.out _).mono ?_
          rintro e w2 ⟨rfl, rfl⟩
          go_wp2_with fail
          go_roundw
          case rel =>
            refine ⟨pos + (Utf8.decode s pos).2, f, acc + 1, HI.out, HB2.out, by go_num, by omega, by omega, by omega, ?_, by omega⟩
            rw [HS.out, HH.out.2]
            rfl
          case measure =>
            simp only [World.iterPos, HI.out, hit.out]
            omega
      · have d0 : (((Utf8.decode s pos).1 : Int) == 65533) = false := by simp; omega
        have HH : Hid (badAt s pos = false) := by
          apply hide
          unfold badAt
          simp [hr]
        clear hr
        go_wp2_with fail
        go_roundw
        case rel =>
          refine ⟨pos + (Utf8.decode s pos).2, f, acc + 1, HI.out, HB2.out, by go_num, by omega, by omega, by omega, ?_, by omega⟩
          rw [HS.out, HH.out]
          rfl
        case measure =>
          simp only [World.iterPos, HI.out, hit.out]
          omega
    · have hnx : ∀ ty, (Instr.next (.pointer (some ⟨w.heap.size, 0, none⟩)) true ty).run Try.prog wr = _ := fun ty => Lib.run_next_end_at wr w.heap.size s pos ty hit hp
      have HC := hide hcnt
      clear hcnt hit
      go_wp2_with fail
      go_ret
      refine ⟨?_, hB⟩
      rw [← HC.out, cntAt_end s f pos acc hp]
      rfl

end Go.Proofs.Ytkflofjcjolehaa

/-! name.May, name.Compare, the closure of name.Words, walked. -/
namespace Go.Proofs.Ytkflofjcjolehaa
open Go.RowKit
set_option maxHeartbeats 2000000
set_option maxRecDepth 100000

theorem restMay_step (s : ByteArray) (f pos : Nat) (h : pos < s.size) : restMay s (f + 1) pos = if isLetter (Utf8.decode s pos).1 || (pos != 0 && isDigit (Utf8.decode s pos).1) then restMay s f (pos + (Utf8.decode s pos).2) else false := by
  simp only [restMay]
  rw [if_pos h]

theorem name_may (w : World) (s : ByteArray) (hs : s.size ≤ 9223372036854775806) : Calls Try.prog 63 #[.string s] w (BoolPost w (nameMay s)) := by
  obtain ⟨n, hn⟩ : ∃ n, runesOf s = n := ⟨_, rfl⟩
  have CR := hide (fun w => hn ▸ name_runes w s hs)
  unfold nameMay
  rw [hn]
  clear hn
  by_cases h1 : n < 1
  · have d1 : decide (n < 1) = true := decide_eq_true h1
    rw [if_pos (.inl h1)]
    clear h1
    go_enter Try.func63, Try.ntmps63
    go_wp2_with fail
    refine (CR.out _).mono ?_
    rintro e w1 ⟨rfl, hb⟩
    go_wp2_with fail
    go_ret
    exact ⟨rfl, hb⟩
  · have d1 : decide (n < 1) = false := decide_eq_false h1
    by_cases h2 : 32 < n
    · have d2 : decide (32 < n) = true := decide_eq_true h2
      rw [if_pos (.inr h2)]
      clear h1 h2
      go_enter Try.func63, Try.ntmps63
      go_wp2_with fail
      refine (CR.out _).mono ?_
      rintro e w1 ⟨rfl, hb⟩
      go_wp2_with fail
      go_ret
      exact ⟨rfl, hb⟩
    · have d2 : decide (32 < n) = false := decide_eq_false h2
      rw [if_neg (by omega)]
      clear h1 h2
      obtain ⟨R, hR⟩ : ∃ R, restMay s s.size 0 = R := ⟨_, rfl⟩
      have HR := hide hR
      rw [hR]
      clear hR
      go_enter Try.func63, Try.ntmps63
      go_wp2_with fail
      refine (CR.out _).mono ?_
      rintro e w1 ⟨rfl, hb⟩
      have HB1 := hide hb
      clear hb
      go_wp2_with fail
      go_loopw [] (fun wr => ∃ (pos f : Nat), wr.heap[w1.heap.size]? = some (.stringIter s pos) ∧ Below w1.heap.size w1 wr ∧ restMay s f pos = R ∧ s.size ≤ pos + f) (fun wr => s.size - wr.iterPos w1.heap.size)
      case atStart => exact ⟨0, s.size, World.iter_heap w1 s 0, (Below.refl _ _).alloc (Nat.le_refl _) _, HR.out, by omega⟩
      case round =>
        obtain ⟨pos, f, hit, hB, hrest, hf⟩ := hrel
        have hsz : w1.heap.size < wr.heap.size := (Array.getElem?_eq_some_iff.1 hit).1
        by_cases hp : pos < s.size
        · obtain ⟨f, rfl⟩ : ∃ g, f = g + 1 := ⟨f - 1, by omega⟩
          have hnx : ∀ ty, (Instr.next (.pointer (some ⟨w1.heap.size, 0, none⟩)) true ty).run Try.prog wr = _ := fun ty => Lib.run_next_any_at wr w1.heap.size s pos ty hit hp
          have hwd := width_pos s pos hp
          have hit2 := Lib.iterAt_heap wr w1.heap.size s pos (pos + (Utf8.decode s pos).2) hit
          have hB2 := Lib.below_iterAt hB (k := w1.heap.size) (Nat.le_refl _) s (pos + (Utf8.decode s pos).2)
          have hz2 : (wr.iterAt w1.heap.size s (pos + (Utf8.decode s pos).2)).heap.size = wr.heap.size := Lib.iterAt_size _ _ _ _
          have hstep := restMay_step s f pos hp
          rw [hrest] at hstep
          have HS := hide hstep
          have HI := hide hit2
          have HB2 := hide hB2
          have hit := hide hit
          have HZ2 := hide hz2
          clear hrest hstep hit2 hB2 hz2
          obtain ⟨L, hL⟩ : ∃ L, isLetter (Utf8.decode s pos).1 = L := ⟨_, rfl⟩
          obtain ⟨D, hD⟩ : ∃ L, isDigit (Utf8.decode s pos).1 = L := ⟨_, rfl⟩
          have CL := hide (fun w => hL ▸ name_letter w (Utf8.decode s pos).1)
          have CD := hide (fun w => hD ▸ name_digit w (Utf8.decode s pos).1)
          have HL := hide (And.intro hL hD)
          clear hL hD
          cases L with
          | true =>
            go_wp2_with fail
            refine (CL.out _).mono ?_
            rintro e w2 ⟨rfl, hb⟩
            have HB3 := hide hb
            clear hb
            go_wp2_with fail
            have hi3 : w2.heap[w1.heap.size]? = some (.stringIter s (pos + (Utf8.decode s pos).2)) := (HB3.out.block _ (by rw [HZ2.out]; exact hsz)).trans HI.out
            go_roundw
            case rel =>
              refine ⟨pos + (Utf8.decode s pos).2, f, hi3, HB2.out.trans (HB3.out.mono (by rw [HZ2.out]; omega)), ?_, by omega⟩
              rw [HS.out, HL.out.1]
              rfl
            case measure =>
              simp only [World.iterPos, hi3, hit.out]
              omega
          | false =>
            by_cases h0 : pos = 0
            · have d0 : ((pos : Int) == 0) = true := by simp [h0]
              have H0 := hide h0
              clear h0
              go_wp2_with fail
              refine (CL.out _).mono ?_
              rintro e w2 ⟨rfl, hb⟩
              have HB3 := hide hb
              clear hb
              go_wp2_with fail
              go_ret
              refine ⟨?_, HB1.out.trans ((HB2.out.trans (HB3.out.mono (by rw [HZ2.out]; omega))).mono HB1.out.size)⟩
              rw [HS.out, HL.out.1]
              simp [H0.out]
            · have d0 : ((pos : Int) == 0) = false := by simp [h0]
              have H0 := hide h0
              clear h0
              cases D with
              | true =>
                go_wp2_with fail
                refine (CL.out _).mono ?_
                rintro e w2 ⟨rfl, hb⟩
                have HB3 := hide hb
                clear hb
                go_wp2_with fail
                refine (CD.out _).mono ?_
                rintro e w3 ⟨rfl, rfl⟩
                go_wp2_with fail
                have hi3 : w2.heap[w1.heap.size]? = some (.stringIter s (pos + (Utf8.decode s pos).2)) := (HB3.out.block _ (by rw [HZ2.out]; exact hsz)).trans HI.out
                go_roundw
                case rel =>
                  refine ⟨pos + (Utf8.decode s pos).2, f, hi3, HB2.out.trans (HB3.out.mono (by rw [HZ2.out]; omega)), ?_, by omega⟩
                  rw [HS.out, HL.out.1, HL.out.2]
                  simp [H0.out]
                case measure =>
                  simp only [World.iterPos, hi3, hit.out]
                  omega
              | false =>
                go_wp2_with fail
                refine (CL.out _).mono ?_
                rintro e w2 ⟨rfl, hb⟩
                have HB3 := hide hb
                clear hb
                go_wp2_with fail
                refine (CD.out _).mono ?_
                rintro e w3 ⟨rfl, rfl⟩
                go_wp2_with fail
                go_ret
                refine ⟨?_, HB1.out.trans ((HB2.out.trans (HB3.out.mono (by rw [HZ2.out]; omega))).mono HB1.out.size)⟩
                rw [HS.out, HL.out.1, HL.out.2]
                simp
        · have hnx : ∀ ty, (Instr.next (.pointer (some ⟨w1.heap.size, 0, none⟩)) true ty).run Try.prog wr = _ := fun ty => Lib.run_next_end_at wr w1.heap.size s pos ty hit hp
          have HC := hide hrest
          clear hrest hit
          go_wp2_with fail
          go_ret
          refine ⟨?_, HB1.out.trans (hB.mono HB1.out.size)⟩
          rw [← HC.out, restMay_end s f pos hp]
          rfl

end Go.Proofs.Ytkflofjcjolehaa
