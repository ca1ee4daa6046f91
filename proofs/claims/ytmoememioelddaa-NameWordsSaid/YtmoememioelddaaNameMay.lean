import Derived.Test.YtmoememioelddaaNameRun
/-! name.May, name.Compare, the closure of name.Words, walked. -/
namespace Go.Proofs.Ytmoememioelddaa
open Go.RowKit
set_option maxHeartbeats 2000000
set_option maxRecDepth 100000

theorem restMay_step (s : ByteArray) (f pos : Nat) (h : pos < s.size) : restMay s (f + 1) pos = if isLetter (Utf8.decode s pos).1 || (pos != 0 && isDigit (Utf8.decode s pos).1) then restMay s f (pos + (Utf8.decode s pos).2) else false := by
  simp only [restMay]
  rw [if_pos h]

theorem name_may (w : World) (s : ByteArray) (hs : s.size ≤ 9223372036854775806) : Calls Try.prog 10 #[.string s] w (BoolPost w (nameMay s)) := by
  obtain ⟨n, hn⟩ : ∃ n, runesOf s = n := ⟨_, rfl⟩
  have CR := hide (fun w => hn ▸ name_runes w s hs)
  unfold nameMay
  rw [hn]
  clear hn
  by_cases h1 : n < 1
  · have d1 : decide (n < 1) = true := decide_eq_true h1
    rw [if_pos (.inl h1)]
    clear h1
    go_enter Try.func10, Try.ntmps10
    go_wp2_with fail
    refine (CR.out _).mono ?_
    rintro e w1 ⟨rfl, hb⟩
    go_wp2_with fail
    go_ret
    exact ⟨rfl, hb⟩
  · have d1 : decide (n < 1) = false := decide_eq_false h1
    by_cases h2 : 32 < n
    · have d2 : decide (32 < n) = true := decide_eq_true h2
      rw [if_pos (.inr h2)]
      clear h1 h2
      go_enter Try.func10, Try.ntmps10
      go_wp2_with fail
      refine (CR.out _).mono ?_
      rintro e w1 ⟨rfl, hb⟩
      go_wp2_with fail
      go_ret
      exact ⟨rfl, hb⟩
    · have d2 : decide (32 < n) = false := decide_eq_false h2
      rw [if_neg (by omega)]
      clear h1 h2
      obtain ⟨R, hR⟩ : ∃ R, restMay s s.size 0 = R := ⟨_, rfl⟩
      have HR := hide hR
      rw [hR]
      clear hR
      go_enter Try.func10, Try.ntmps10
      go_wp2_with fail
      refine (CR.out _).mono ?_
      rintro e w1 ⟨rfl, hb⟩
      have HB1 := hide hb
      clear hb
      go_wp2_with fail
      go_loopw [] (fun wr => ∃ (pos f : Nat), wr.heap[w1.heap.size]? = some (.stringIter s pos) ∧ Below w1.heap.size w1 wr ∧ restMay s f pos = R ∧ s.size ≤ pos + f) (fun wr => s.size - wr.iterPos w1.heap.size)
      case atStart => exact ⟨0, s.size, World.iter_heap w1 s 0, (Below.refl _ _).alloc (Nat.le_refl _) _, HR.out, by omega⟩
      case round =>
        obtain ⟨pos, f, hit, hB, hrest, hf⟩ := hrel
        have hsz : w1.heap.size < wr.heap.size := (Array.getElem?_eq_some_iff.1 hit).1
        by_cases hp : pos < s.size
        · obtain ⟨f, rfl⟩ : ∃ g, f = g + 1 := ⟨f - 1, by omega⟩
          have hnx : ∀ ty, (Instr.next (.pointer (some ⟨w1.heap.size, 0, none⟩)) true ty).run Try.prog wr = _ := fun ty => Lib.run_next_any_at wr w1.heap.size s pos ty hit hp
          have hwd := width_pos s pos hp
          have hit2 := Lib.iterAt_heap wr w1.heap.size s pos (pos + (Utf8.decode s pos).2) hit
          have hB2 := Lib.below_iterAt hB (k := w1.heap.size) (Nat.le_refl _) s (pos + (Utf8.decode s pos).2)
          have hz2 : (wr.iterAt w1.heap.size s (pos + (Utf8.decode s pos).2)).heap.size = wr.heap.size := Lib.iterAt_size _ _ _ _
          have hstep := restMay_step s f pos hp
          rw [hrest] at hstep
          have HS := hide hstep
          have HI := hide hit2
          have HB2 := hide hB2
          have hit := hide hit
          have HZ2 := hide hz2
          clear hrest hstep hit2 hB2 hz2
          obtain ⟨L, hL⟩ : ∃ L, isLetter (Utf8.decode s pos).1 = L := ⟨_, rfl⟩
          obtain ⟨D, hD⟩ : ∃ L, isDigit (Utf8.decode s pos).1 = L := ⟨_, rfl⟩
          have CL := hide (fun w => hL ▸ name_letter w (Utf8.decode s pos).1)
          have CD := hide (fun w => hD ▸ name_digit w (Utf8.decode s pos).1)
          have HL := hide (And.intro hL hD)
          clear hL hD
          cases L with
          | true =>
            go_wp2_with fail
            refine (CL.out _).mono ?_
            rintro e w2 ⟨rfl, hb⟩
            have HB3 := hide hb
            clear hb
            go_wp2_with fail
            have hi3 : w2.heap[w1.heap.size]? = some (.stringIter s (pos + (Utf8.decode s pos).2)) := (HB3.out.block _ (by rw [HZ2.out]; exact hsz)).trans HI.out
            go_roundw
            case rel =>
              refine ⟨pos + (Utf8.decode s pos).2, f, hi3, HB2.out.trans (HB3.out.mono (by rw [HZ2.out]; omega)), ?_, by omega⟩
              rw [HS.out, HL.out.1]
              rfl
            case measure =>
              simp only [World.iterPos, hi3, hit.out]
              omega
          | false =>
            by_cases h0 : pos = 0
            · have d0 : ((pos : Int) == 0) = true := by simp [h0]
              have H0 := hide h0
              clear h0
              go_wp2_with fail
              refine (CL.out _).mono ?_
              rintro e w2 ⟨rfl, hb⟩
              have HB3 := hide hb
              clear hb
              go_wp2_with fail
              go_ret
              refine ⟨?_, HB1.out.trans ((HB2.out.trans (HB3.out.mono (by rw [HZ2.out]; omega))).mono HB1.out.size)⟩
              rw [HS.out, HL.out.1]
              simp [H0.out]
            · have d0 : ((pos : Int) == 0) = false := by simp [h0]
              have H0 := hide h0
              clear h0
              cases D with
              | true =>
                go_wp2_with fail
                refine (CL.out _).mono ?_
                rintro e w2 ⟨rfl, hb⟩
                have HB3 := hide hb
                clear hb
                go_wp2_with fail
                refine (CD.out _).mono ?_
                rintro e w3 ⟨rfl, rfl⟩
                go_wp2_with fail
                have hi3 : w2.heap[w1.heap.size]? = some (.stringIter s (pos + (Utf8.decode s pos).2)) := (HB3.out.block _ (by rw [HZ2.out]; exact hsz)).trans HI.out
                go_roundw
                case rel =>
                  refine ⟨pos + (Utf8.decode s pos).2, f, hi3, HB2.out.trans (HB3.out.mono (by rw [HZ2.out]; omega)), ?_, by omega⟩
                  rw [HS.out, HL.out.1, HL.out.2]
                  simp [H0.out]
                case measure =>
                  simp only [World.iterPos, hi3, hit.out]
                  omega
              | false =>
                go_wp2_with fail
                refine (CL.out _).mono ?_
                rintro e w2 ⟨rfl, hb⟩
                have HB3 := hide hb
                clear hb
                go_wp2_with fail
                refine (CD.out _).mono ?_
                rintro e w3 ⟨rfl, rfl⟩
                go_wp2_with fail
                go_ret
                refine ⟨?_, HB1.out.trans ((HB2.out.trans (HB3.out.mono (by rw [HZ2.out]; omega))).mono HB1.out.size)⟩
                rw [HS.out, HL.out.1, HL.out.2]
                simp
        · have hnx : ∀ ty, (Instr.next (.pointer (some ⟨w1.heap.size, 0, none⟩)) true ty).run Try.prog wr = _ := fun ty => Lib.run_next_end_at wr w1.heap.size s pos ty hit hp
          have HC := hide hrest
          clear hrest hit
          go_wp2_with fail
          go_ret
          refine ⟨?_, HB1.out.trans (hB.mono HB1.out.size)⟩
          rw [← HC.out, restMay_end s f pos hp]
          rfl

theorem name_compare (w : World) (a b : ByteArray) (ha : a.size ≤ 9223372036854775806) (hb : b.size ≤ 9223372036854775806) : Calls Try.prog 19 #[.string a, .string b] w (IntPost w (nameCompare a b)) := by
  obtain ⟨n, hn⟩ : ∃ n, runesOf a = n := ⟨_, rfl⟩
  obtain ⟨m, hm⟩ : ∃ n, runesOf b = n := ⟨_, rfl⟩
  have CA := hide (fun w => hn ▸ name_runes w a ha)
  have CB := hide (fun w => hm ▸ name_runes w b hb)
  have CC := hide (fun w => Try.strings_Compare a b w)
  unfold nameCompare
  rw [hn, hm]
  clear hn hm
  generalize Lib.compareBytes a.data.toList b.data.toList = q at *
  by_cases h1 : 0 ≤ n
  · have d1 : decide (0 ≤ n) = true := decide_eq_true h1
    by_cases h2 : 0 ≤ m
    · have d2 : decide (0 ≤ m) = true := decide_eq_true h2
      rw [d1, d2, if_pos rfl]
      go_enter Try.func19, Try.ntmps19
      go_wp2_with fail
      refine (CA.out _).mono ?_
      rintro e w1 ⟨rfl, k1⟩
      have K1 := hide k1
      clear k1
      go_wp2_with fail
      refine (CB.out _).mono ?_
      rintro e w2 ⟨rfl, k2⟩
      have K2 := hide (K1.out.trans (k2.mono K1.out.size))
      clear k2
      go_wp2_with fail
      refine (CC.out _).mono ?_
      rintro e w3 ⟨rfl, rfl⟩
      go_wp2_with fail
      go_ret
      exact ⟨rfl, K2.out⟩
    · have d2 : decide (0 ≤ m) = false := decide_eq_false h2
      rw [d1, d2, if_neg (by decide), if_pos h1]
      go_enter Try.func19, Try.ntmps19
      go_wp2_with fail
      refine (CA.out _).mono ?_
      rintro e w1 ⟨rfl, k1⟩
      have K1 := hide k1
      clear k1
      go_wp2_with fail
      refine (CB.out _).mono ?_
      rintro e w2 ⟨rfl, k2⟩
      have K2 := hide (K1.out.trans (k2.mono K1.out.size))
      clear k2
      go_wp2_with fail
      go_ret
      exact ⟨rfl, K2.out⟩
  · have d1 : decide (0 ≤ n) = false := decide_eq_false h1
    by_cases h2 : 0 ≤ m
    · have d2 : decide (0 ≤ m) = true := decide_eq_true h2
      rw [d1, d2, if_neg (by decide), if_neg h1]
      go_enter Try.func19, Try.ntmps19
      go_wp2_with fail
      refine (CA.out _).mono ?_
      rintro e w1 ⟨rfl, k1⟩
      have K1 := hide k1
      clear k1
      go_wp2_with fail
      refine (CB.out _).mono ?_
      rintro e w2 ⟨rfl, k2⟩
      have K2 := hide (K1.out.trans (k2.mono K1.out.size))
      clear k2
      go_wp2_with fail
      go_ret
      exact ⟨rfl, K2.out⟩
    · have d2 : decide (0 ≤ m) = false := decide_eq_false h2
      rw [d1, d2, if_pos rfl]
      go_enter Try.func19, Try.ntmps19
      go_wp2_with fail
      refine (CA.out _).mono ?_
      rintro e w1 ⟨rfl, k1⟩
      have K1 := hide k1
      clear k1
      go_wp2_with fail
      refine (CB.out _).mono ?_
      rintro e w2 ⟨rfl, k2⟩
      have K2 := hide (K1.out.trans (k2.mono K1.out.size))
      clear k2
      go_wp2_with fail
      refine (CC.out _).mono ?_
      rintro e w3 ⟨rfl, rfl⟩
      go_wp2_with fail
      go_ret
      exact ⟨rfl, K2.out⟩

theorem name_words_1 (w : World) (r : Nat) : Calls Try.prog 27 #[.int .i32 r] w (BoolPost w (noWord r)) := by
  obtain ⟨L, hL⟩ : ∃ L, isLetter r = L := ⟨_, rfl⟩
  obtain ⟨D, hD⟩ : ∃ L, isDigit r = L := ⟨_, rfl⟩
  have CL := hide (fun w => hL ▸ name_letter w r)
  have CD := hide (fun w => hD ▸ name_digit w r)
  unfold noWord
  rw [hL, hD]
  clear hL hD
  cases L with
  | true =>
    go_enter Try.func27, Try.ntmps27
    go_wp2_with fail
    refine (CL.out _).mono ?_
    rintro e w1 ⟨rfl, k1⟩
    go_wp2_with fail
    go_ret
    exact ⟨rfl, k1⟩
  | false =>
    cases D with
    | true =>
      go_enter Try.func27, Try.ntmps27
      go_wp2_with fail
      refine (CL.out _).mono ?_
      rintro e w1 ⟨rfl, k1⟩
      have K1 := hide k1
      clear k1
      go_wp2_with fail
      refine (CD.out _).mono ?_
      rintro e w2 ⟨rfl, rfl⟩
      go_wp2_with fail
      go_ret
      exact ⟨rfl, K1.out⟩
    | false =>
      go_enter Try.func27, Try.ntmps27
      go_wp2_with fail
      refine (CL.out _).mono ?_
      rintro e w1 ⟨rfl, k1⟩
      have K1 := hide k1
      clear k1
      go_wp2_with fail
      refine (CD.out _).mono ?_
      rintro e w2 ⟨rfl, rfl⟩
      go_wp2_with fail
      go_ret
      exact ⟨rfl, K1.out⟩

end Go.Proofs.Ytmoememioelddaa
