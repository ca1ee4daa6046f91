/- NameLetters in plain Lean: which runes are letters, and which of two texts comes first. -/
import Derived.Test.YtmoememioelddaaHNameLettersx3
import Derived.Test.YtmoememioelddaaNameText
import Derived.Test.YtmoememioelddaaWf
import Derived.Test.YtmoememioelddaaNameOrder
import Derived.Test.YtmoememioelddaaNameWords
namespace Go.Proofs.Ytmoememioelddaa.Pure
open Go.RowKit Go.Proofs.Ytmoememioelddaa.HNameLetters Go.Proofs.YtmoememioelddaaW.PrintWords Go.Proofs.YtmoememioelddaaW.PrintLast

theorem alive_true : wardenlaw09_alive.f = some true := by decide +kernel

theorem bt_nat (s : ByteArray) (i : Nat) (h : i < s.size) : bt s i = byteN s 0 i := by
  unfold bt
  rw [dif_pos (by simpa using h)]
  have g := list_byteN s 0 i (by omega)
  rw [List.drop_zero, Array.getElem?_toList, Array.getElem?_eq_getElem (by simpa using h)] at g
  have g := Option.some.inj g
  show ((s.data[i]'(by simpa using h)).toNat : Int) = _
  rw [g, ofNat_toNat (byteN_lt s 0 i)]

theorem wrap64_small (x : Int) (h0 : -1000000000 ≤ x) (h1 : x ≤ 1000000000) : wrap64 x = x := by
  unfold wrap64
  omega

/-- A byte of a rune behind its first one. -/
def tailN (s : ByteArray) (i : Nat) : Int := if i < s.size ∧ byteN s 0 i / 64 = 2 then ((byteN s 0 i % 64 : Nat) : Int) else -1

theorem tail_eq (s : ByteArray) (i : Nat) : wardenref09_tail.f s (i : Int) = some (tailN s i) := by
  unfold wardenref09_tail.f tailN
  by_cases h : i < s.size
  · have hb := byteN_lt s 0 i
    rw [if_neg (by omega), if_pos (by omega), if_pos (by omega), bt_nat s i h]
    rcases Nat.lt_or_ge (byteN s 0 i) 128 with h1 | h1
    · rw [if_pos (by omega), if_neg (by omega)]
    · rw [if_neg (by omega)]
      rcases Nat.lt_or_ge 191 (byteN s 0 i) with h2 | h2
      · rw [if_pos (by omega), if_neg (by omega)]
      · rw [if_neg (by omega), if_pos (by omega), wrap64_small (byteN s 0 i) (by omega) (by omega), wrap64_small _ (by omega) (by omega)]
        congr 1
        omega
  · rw [if_pos (by omega), if_neg (by omega)]

/-- What the reference reads of a text that is not empty. -/
def readN (s : ByteArray) : Int × Int := if badAt s 0 then (-1, 0) else (((Utf8.decode s 0).1 : Int), ((Utf8.decode s 0).2 : Int))

theorem tailN_range (s : ByteArray) (i : Nat) : -1 ≤ tailN s i ∧ tailN s i ≤ 63 := by
  unfold tailN
  split <;> omega

theorem read_step (s : ByteArray) (k : Nat) (n r least : Int) (j : Nat) (hj : (j : Int) < n) (hr0 : 0 ≤ r) (hr1 : r ≤ 1000000) (hj2 : j < 10) :
    wardenref09_Read.l0 (k + 1) s n r least j = if tailN s j < 0 then some (-1, 0) else wardenref09_Read.l0 k s n (64 * r + tailN s j) least ((j + 1 : Nat) : Int) := by
  have ht := tailN_range s j
  simp only [wardenref09_Read.l0]
  rw [if_pos hj, tail_eq]
  simp only [Option.bind_some]
  rw [wrap64_small (64 * r) (by omega) (by omega), wrap64_small _ (by omega) (by omega), wrap64_small ((j : Int) + 1) (by omega) (by omega)]
  rfl

theorem read_end (s : ByteArray) (k : Nat) (n r least : Int) : wardenref09_Read.l0 (k + 1) s n r least n = if r < least ∨ r > 1114111 ∨ (r ≥ 55296 ∧ r ≤ 57343) then some (-1, 0) else some (r, n) := by
  simp only [wardenref09_Read.l0]
  rw [if_neg (by omega)]
  by_cases h1 : r < least
  · rw [if_pos h1, if_pos (.inl h1)]
  · rw [if_neg h1]
    by_cases h2 : r > 1114111
    · rw [if_pos h2, if_pos (.inr (.inl h2))]
    · rw [if_neg h2]
      by_cases h3 : r ≥ 55296
      · rw [if_pos h3]
        by_cases h4 : r ≤ 57343
        · rw [if_pos h4, if_pos (.inr (.inr ⟨h3, h4⟩))]
        · rw [if_neg h4, if_neg (by omega)]
      · rw [if_neg h3, if_neg (by omega)]

/-- The model's decoding, as a chain of tests. -/
theorem decode_tests (s : ByteArray) (h : 0 < s.size) : readN s =
    if byteN s 0 0 < 128 then ((byteN s 0 0 : Int), 1)
    else if byteN s 0 0 / 32 = 6 then (if tailN s 1 < 0 then (-1, 0) else if 64 * ((byteN s 0 0 : Int) - 192) + tailN s 1 < 128 then (-1, 0) else (64 * ((byteN s 0 0 : Int) - 192) + tailN s 1, 2))
    else if byteN s 0 0 / 16 = 14 then (if tailN s 1 < 0 then (-1, 0) else if tailN s 2 < 0 then (-1, 0) else
      if 64 * (64 * ((byteN s 0 0 : Int) - 224) + tailN s 1) + tailN s 2 < 2048 ∨ (64 * (64 * ((byteN s 0 0 : Int) - 224) + tailN s 1) + tailN s 2 ≥ 55296 ∧ 64 * (64 * ((byteN s 0 0 : Int) - 224) + tailN s 1) + tailN s 2 ≤ 57343) then (-1, 0)
      else (64 * (64 * ((byteN s 0 0 : Int) - 224) + tailN s 1) + tailN s 2, 3))
    else if byteN s 0 0 / 8 = 30 then (if tailN s 1 < 0 then (-1, 0) else if tailN s 2 < 0 then (-1, 0) else if tailN s 3 < 0 then (-1, 0) else
      if 64 * (64 * (64 * ((byteN s 0 0 : Int) - 240) + tailN s 1) + tailN s 2) + tailN s 3 < 65536 ∨ 64 * (64 * (64 * ((byteN s 0 0 : Int) - 240) + tailN s 1) + tailN s 2) + tailN s 3 > 1114111 then (-1, 0)
      else (64 * (64 * (64 * ((byteN s 0 0 : Int) - 240) + tailN s 1) + tailN s 2) + tailN s 3, 4))
    else (-1, 0) := by
  have b0 := byteN_lt s 0 0
  have b1 := byteN_lt s 0 1
  have b2 := byteN_lt s 0 2
  have b3 := byteN_lt s 0 3
  have hd := dec_of s 0
  unfold readN badAt
  by_cases hbad : (Utf8.decode s 0).1 = 65533 ∧ (Utf8.decode s 0).2 = 1
  · have e : ((Utf8.decode s 0).1 == 65533 && (Utf8.decode s 0).2 == 1) = true := by simp [hbad.1, hbad.2]
    rw [e, if_pos rfl]
    -- no rune: none of the ways is open
    have key : ∀ c m, validN c = true → s.data.toList.drop 0 = encL c ++ m → False := fun c m hv hm => by
      have := not_bad s 0 c m hv hm
      unfold badAt at this
      rw [e] at this
      cases this
    have lb : ∀ k, k < s.size → s.data.toList.drop k = UInt8.ofNat (byteN s 0 k) :: s.data.toList.drop (k + 1) := fun k hk => by
      have g := list_byteN s 0 k (by omega)
      rw [List.drop_zero] at g
      exact drop_cons4 (by rw [List.getElem?_drop]; exact g)
    have n0 := lb 0 h
    split
    · rename_i g
      exact (key (byteN s 0 0) (s.data.toList.drop 1) (by unfold validN; simp; omega) (by rw [n0]; unfold encL; rw [if_pos g]; rfl)).elim
    · split
      · rename_i g
        split
        · rfl
        · split
          · rfl
          · rename_i t1 t2
            exfalso
            unfold tailN at t1 t2
            split at t1
            · rename_i q1
              rw [if_pos q1] at t2
              obtain ⟨c, hc⟩ : ∃ c, byteN s 0 0 % 32 * 64 + byteN s 0 1 % 64 = c := ⟨_, rfl⟩
              refine key c (s.data.toList.drop 2) (by unfold validN; simp; omega) ?_
              rw [n0, lb 1 q1.1]
              unfold encL
              rw [if_neg (by omega), if_pos (by omega), show 192 + c / 64 = byteN s 0 0 by omega, show 128 + c % 64 = byteN s 0 1 by omega]
              rfl
            · omega
      · split
        · rename_i g
          split
          · rfl
          · split
            · rfl
            · split
              · rfl
              · rename_i t1 t2 t3
                exfalso
                unfold tailN at t1 t2 t3
                split at t1
                · rename_i q1
                  rw [if_pos q1] at t3
                  split at t2
                  · rename_i q2
                    rw [if_pos q2] at t3
                    obtain ⟨c, hc⟩ : ∃ c, byteN s 0 0 % 16 * 4096 + byteN s 0 1 % 64 * 64 + byteN s 0 2 % 64 = c := ⟨_, rfl⟩
                    refine key c (s.data.toList.drop 3) (by unfold validN; simp; omega) ?_
                    rw [n0, lb 1 q1.1, lb 2 q2.1]
                    unfold encL
                    rw [if_neg (by omega), if_neg (by omega), if_pos (by omega), show 224 + c / 4096 = byteN s 0 0 by omega, show 128 + c / 64 % 64 = byteN s 0 1 by omega, show 128 + c % 64 = byteN s 0 2 by omega]
                    rfl
                  · omega
                · omega
        · split
          · rename_i g
            split
            · rfl
            · split
              · rfl
              · split
                · rfl
                · split
                  · rfl
                  · rename_i t1 t2 t3 t4
                    exfalso
                    unfold tailN at t1 t2 t3 t4
                    split at t1
                    · rename_i q1
                      rw [if_pos q1] at t4
                      split at t2
                      · rename_i q2
                        rw [if_pos q2] at t4
                        split at t3
                        · rename_i q3
                          rw [if_pos q3] at t4
                          obtain ⟨c, hc⟩ : ∃ c, byteN s 0 0 % 8 * 262144 + byteN s 0 1 % 64 * 4096 + byteN s 0 2 % 64 * 64 + byteN s 0 3 % 64 = c := ⟨_, rfl⟩
                          refine key c (s.data.toList.drop 4) (by unfold validN; simp; omega) ?_
                          rw [n0, lb 1 q1.1, lb 2 q2.1, lb 3 q3.1]
                          unfold encL
                          rw [if_neg (by omega), if_neg (by omega), if_neg (by omega), show 240 + c / 262144 = byteN s 0 0 by omega, show 128 + c / 4096 % 64 = byteN s 0 1 by omega, show 128 + c / 64 % 64 = byteN s 0 2 by omega, show 128 + c % 64 = byteN s 0 3 by omega]
                          rfl
                        · omega
                      · omega
                    · omega
          · rfl
  · have e : ((Utf8.decode s 0).1 == 65533 && (Utf8.decode s 0).2 == 1) = false := by
      cases hq : ((Utf8.decode s 0).1 == 65533 && (Utf8.decode s 0).2 == 1)
      · rfl
      · simp at hq
        exact (hbad hq).elim
    rw [e]
    simp only [Bool.false_eq_true, if_false]
    clear e
    generalize (Utf8.decode s 0).1 = c at hd hbad
    generalize (Utf8.decode s 0).2 = v at hd hbad
    cases hd with
    | one g => rw [if_pos g]; rfl
    | bad => exact (hbad ⟨rfl, rfl⟩).elim
    | two g0 l1 g1 hm =>
      have t1 : tailN s 1 = ((byteN s 0 1 % 64 : Nat) : Int) := by unfold tailN; rw [if_pos ⟨by omega, g1⟩]
      rw [if_neg (by omega), if_pos g0, t1, if_neg (by omega), if_neg (by omega)]
      congr 1
      omega
    | three g0 l1 g1 l2 g2 hm hv =>
      have t1 : tailN s 1 = ((byteN s 0 1 % 64 : Nat) : Int) := by unfold tailN; rw [if_pos ⟨by omega, g1⟩]
      have t2 : tailN s 2 = ((byteN s 0 2 % 64 : Nat) : Int) := by unfold tailN; rw [if_pos ⟨by omega, g2⟩]
      simp [Utf8.valid] at hv
      rw [if_neg (by omega), if_neg (by omega), if_pos g0, t1, t2, if_neg (by omega), if_neg (by omega), if_neg (by omega)]
      congr 1
      omega
    | four g0 l1 g1 l2 g2 l3 g3 hm hv =>
      have t1 : tailN s 1 = ((byteN s 0 1 % 64 : Nat) : Int) := by unfold tailN; rw [if_pos ⟨by omega, g1⟩]
      have t2 : tailN s 2 = ((byteN s 0 2 % 64 : Nat) : Int) := by unfold tailN; rw [if_pos ⟨by omega, g2⟩]
      have t3 : tailN s 3 = ((byteN s 0 3 % 64 : Nat) : Int) := by unfold tailN; rw [if_pos ⟨by omega, g3⟩]
      simp [Utf8.valid] at hv
      rw [if_neg (by omega), if_neg (by omega), if_neg (by omega), if_pos g0, t1, t2, t3, if_neg (by omega), if_neg (by omega), if_neg (by omega), if_neg (by omega)]
      congr 1
      omega

set_option maxRecDepth 100000 in
theorem read_eq (s : ByteArray) (h : 0 < s.size) : Ev (fun k => wardenref09_Read.f k s) (readN s) := by
  refine ⟨12, fun k hk => ?_⟩
  obtain ⟨k, rfl⟩ : ∃ m, k = m + 10 := ⟨k - 10, by omega⟩
  have b0 := byteN_lt s 0 0
  have hne : ¬ s.toList = ([] : List UInt8) := by
    rw [ByteArray.toList_eq]
    intro he
    have := congrArg List.length he
    rw [Array.length_toList, List.length_nil] at this
    have : s.size = 0 := this
    omega
  have r1 := tailN_range s 1
  have r2 := tailN_range s 2
  have r3 := tailN_range s 3
  rw [decode_tests s h]
  show wardenref09_Read.f (k + 10) s = _
  unfold wardenref09_Read.f
  have hb := bt_nat s 0 h
  rw [show ((0 : Nat) : Int) = 0 from rfl] at hb
  rw [if_neg hne, if_pos (by omega), hb, wrap64_small (byteN s 0 0) (by omega) (by omega)]
  by_cases c0 : byteN s 0 0 < 128
  · rw [if_pos (by omega), if_pos c0]
  · rw [if_neg (by omega), if_neg c0]
    by_cases c1 : byteN s 0 0 / 32 = 6
    · rw [if_pos (by omega), if_pos c1, decide_eq_true (show (byteN s 0 0 : Int) < 224 by omega)]
      simp only [wardenref09_Read.j0, wardenref09_Read.j2, if_true]
      rw [wrap64_small _ (by omega) (by omega)]
      have s1 := read_step s (k + 7) 2 ((byteN s 0 0 : Int) - 192) 128 1 (by omega) (by omega) (by omega) (by omega)
      rw [show ((1 : Nat) : Int) = 1 from rfl] at s1
      rw [s1]
      by_cases t1 : tailN s 1 < 0
      · rw [if_pos t1, if_pos t1]
      · rw [if_neg t1, if_neg t1]
        have s2 := read_end s (k + 6) 2 (64 * ((byteN s 0 0 : Int) - 192) + tailN s 1) 128
        rw [show (((1 + 1 : Nat)) : Int) = 2 from rfl, s2]
        by_cases q : 64 * ((byteN s 0 0 : Int) - 192) + tailN s 1 < 128
        · rw [if_pos (.inl q), if_pos q]
        · rw [if_neg (by omega), if_neg q]
    · rw [if_neg c1]
      by_cases c2 : byteN s 0 0 / 16 = 14
      · rw [if_pos (by omega), if_pos c2, decide_eq_false (show ¬ (byteN s 0 0 : Int) < 224 by omega)]
        simp only [wardenref09_Read.j0, Bool.false_eq_true, if_false]
        rw [if_pos (by omega), decide_eq_true (show (byteN s 0 0 : Int) < 240 by omega)]
        simp only [wardenref09_Read.j1, wardenref09_Read.j2, if_true]
        rw [wrap64_small _ (by omega) (by omega)]
        have s1 := read_step s (k + 6) 3 ((byteN s 0 0 : Int) - 224) 2048 1 (by omega) (by omega) (by omega) (by omega)
        rw [show ((1 : Nat) : Int) = 1 from rfl] at s1
        rw [s1]
        by_cases t1 : tailN s 1 < 0
        · rw [if_pos t1, if_pos t1]
        · rw [if_neg t1, if_neg t1]
          have s2 := read_step s (k + 5) 3 (64 * ((byteN s 0 0 : Int) - 224) + tailN s 1) 2048 2 (by omega) (by omega) (by omega) (by omega)
          rw [s2]
          by_cases t2 : tailN s 2 < 0
          · rw [if_pos t2, if_pos t2]
          · rw [if_neg t2, if_neg t2]
            have s3 := read_end s (k + 4) 3 (64 * (64 * ((byteN s 0 0 : Int) - 224) + tailN s 1) + tailN s 2) 2048
            rw [show (((2 + 1 : Nat)) : Int) = 3 from rfl, s3]
            by_cases q : 64 * (64 * ((byteN s 0 0 : Int) - 224) + tailN s 1) + tailN s 2 < 2048 ∨ (64 * (64 * ((byteN s 0 0 : Int) - 224) + tailN s 1) + tailN s 2 ≥ 55296 ∧ 64 * (64 * ((byteN s 0 0 : Int) - 224) + tailN s 1) + tailN s 2 ≤ 57343)
            · rw [if_pos (by omega), if_pos q]
            · rw [if_neg (by omega), if_neg q]
      · rw [if_neg c2]
        by_cases c3 : byteN s 0 0 / 8 = 30
        · rw [if_pos (by omega), if_pos c3, decide_eq_false (show ¬ (byteN s 0 0 : Int) < 224 by omega)]
          simp only [wardenref09_Read.j0, Bool.false_eq_true, if_false]
          rw [if_pos (by omega), decide_eq_false (show ¬ (byteN s 0 0 : Int) < 240 by omega)]
          simp only [wardenref09_Read.j1, Bool.false_eq_true, if_false]
          rw [if_pos (by omega), if_pos (by omega)]
          simp only [wardenref09_Read.j2]
          rw [wrap64_small _ (by omega) (by omega)]
          have s1 := read_step s (k + 6) 4 ((byteN s 0 0 : Int) - 240) 65536 1 (by omega) (by omega) (by omega) (by omega)
          rw [show ((1 : Nat) : Int) = 1 from rfl] at s1
          rw [s1]
          by_cases t1 : tailN s 1 < 0
          · rw [if_pos t1, if_pos t1]
          · rw [if_neg t1, if_neg t1]
            have s2 := read_step s (k + 5) 4 (64 * ((byteN s 0 0 : Int) - 240) + tailN s 1) 65536 2 (by omega) (by omega) (by omega) (by omega)
            rw [s2]
            by_cases t2 : tailN s 2 < 0
            · rw [if_pos t2, if_pos t2]
            · rw [if_neg t2, if_neg t2]
              have s3 := read_step s (k + 4) 4 (64 * (64 * ((byteN s 0 0 : Int) - 240) + tailN s 1) + tailN s 2) 65536 3 (by omega) (by omega) (by omega) (by omega)
              rw [s3]
              by_cases t3 : tailN s 3 < 0
              · rw [if_pos t3, if_pos t3]
              · rw [if_neg t3, if_neg t3]
                have s4 := read_end s (k + 3) 4 (64 * (64 * (64 * ((byteN s 0 0 : Int) - 240) + tailN s 1) + tailN s 2) + tailN s 3) 65536
                rw [show (((3 + 1 : Nat)) : Int) = 4 from rfl, s4]
                by_cases q : 64 * (64 * (64 * ((byteN s 0 0 : Int) - 240) + tailN s 1) + tailN s 2) + tailN s 3 < 65536 ∨ 64 * (64 * (64 * ((byteN s 0 0 : Int) - 240) + tailN s 1) + tailN s 2) + tailN s 3 > 1114111
                · rw [if_pos (by omega), if_pos q]
                · rw [if_neg (by omega), if_neg q]
        · rw [if_neg c3]
          by_cases c4 : (byteN s 0 0 : Int) ≥ 192
          · rw [if_pos c4, decide_eq_false (show ¬ (byteN s 0 0 : Int) < 224 by omega)]
            simp only [wardenref09_Read.j0, Bool.false_eq_true, if_false]
            rw [if_pos (by omega), decide_eq_false (show ¬ (byteN s 0 0 : Int) < 240 by omega)]
            simp only [wardenref09_Read.j1, Bool.false_eq_true, if_false]
            rw [if_pos (by omega), if_neg (by omega)]
          · rw [if_neg c4]
            simp only [wardenref09_Read.j0, Bool.false_eq_true, if_false]
            rw [if_neg (by omega)]
            simp only [wardenref09_Read.j1, Bool.false_eq_true, if_false]
            rw [if_neg (by omega)]

/-- A text's rest reads as the text does from there on. -/
theorem decode_rest (s : ByteArray) (i : Nat) (h : i ≤ s.size) : Utf8.decode (s.extract i s.size) 0 = Utf8.decode s i := by
  have hz : (s.extract i s.size).size = s.size - i := by rw [ByteArray.size_extract]; omega
  have hg : ∀ k, (s.extract i s.size).get! (0 + k) = s.get! (i + k) := fun k => by
    by_cases hk : i + k < s.size
    · have g1 := get_extract s i k hk
      have g2 : (s.extract i s.size).data.toList[k]? = some ((s.extract i s.size).get! (0 + k)) := by
        have hk2 : 0 + k < (s.extract i s.size).data.size := by
          show 0 + k < (s.extract i s.size).size
          omega
        show _ = some ((s.extract i s.size).data[0 + k]!)
        rw [getElem!_pos (s.extract i s.size).data (0 + k) hk2, Array.getElem?_toList]
        rw [Array.getElem?_eq_getElem (by omega)]
        congr 1
        congr 1
        omega
      rw [g1] at g2
      exact (Option.some.inj g2).symm
    · show (s.extract i s.size).data[0 + k]! = s.data[i + k]!
      rw [getElem!_neg (s.extract i s.size).data (0 + k) (by show ¬ 0 + k < (s.extract i s.size).size; omega), getElem!_neg s.data (i + k) hk]
  have hs : ∀ k, (0 + k < (s.extract i s.size).size) = (i + k < s.size) := fun k => by
    apply propext
    rw [hz]
    omega
  simp only [Utf8.decode, hg, hs]

theorem readN_rest (s : ByteArray) (i : Nat) (h : i ≤ s.size) : readN (s.extract i s.size) = if badAt s i then (-1, 0) else (((Utf8.decode s i).1 : Int), ((Utf8.decode s i).2 : Int)) := by
  unfold readN badAt
  rw [decode_rest s i h]

theorem read_at (s : ByteArray) (i : Nat) (h : i < s.size) : Ev (fun k => wardenref09_Read.f k (s.extract ((i : Int)).toNat s.size)) (if badAt s i then (-1, 0) else (((Utf8.decode s i).1 : Int), ((Utf8.decode s i).2 : Int))) := by
  rw [← readN_rest s i (by omega)]
  exact read_eq _ (by rw [ByteArray.size_extract]; show 0 < min s.size s.size - ((i : Int)).toNat; omega)

/-- A row of runes, as the reference keeps it. -/
def ints (rs : List Nat) : List Int := rs.map Int.ofNat

theorem all_text {s : ByteArray} (hs : s.size ≤ 1000000) : ∀ {rs : List Nat} {i : Nat} {acc : List Int}, Text s i rs → acc.length ≤ i →
    Ev (fun k => wardenref09_all.l0 k s acc (i : Int)) (acc ++ ints rs, true) := by
  intro rs
  induction rs with
  | nil =>
    intro i acc h hl
    have := h.nil
    refine ⟨1, fun k hk => ?_⟩
    obtain ⟨k, rfl⟩ : ∃ m, k = m + 1 := ⟨k - 1, by omega⟩
    simp only [wardenref09_all.l0]
    rw [if_neg (by omega)]
    simp [ints]
  | cons c rs ih =>
    intro i acc h hl
    obtain ⟨hi, hb, hd, ht, hv⟩ := h.cons
    have hp := encL_pos c
    have hle := ht.2.2
    refine Ev.step (f := fun k => (wardenref09_Read.f k (s.extract ((i : Int)).toNat s.size)).bind fun bt => if bt.1 < 0 then some (([] : List Int), false) else if acc.length < 17592186044416 then wardenref09_all.l0 k s (acc ++ [bt.1]) (wrap64 ((i : Int) + bt.2)) else none) (fun k => by
      simp only [wardenref09_all.l0]
      rw [if_pos (by omega), if_pos (by omega), if_pos (by omega)]) ?_
    refine Ev.bind (read_at s i hi) ?_
    rw [hb, hd]
    simp only [Bool.false_eq_true, if_false]
    refine Ev.congr (f := fun k => wardenref09_all.l0 k s (acc ++ [(c : Int)]) ((i + (encL c).length : Nat) : Int)) (fun k => ?_) ?_
    · rw [if_neg (by omega), if_pos (by omega), wrap64_small _ (by omega) (by omega), Int.natCast_add]
    · have := ih (acc := acc ++ [(c : Int)]) ht (by simp; omega)
      simpa [ints] using this

theorem all_bad {s : ByteArray} (hs : s.size ≤ 1000000) {i : Nat} (h : BadFrom s i) : ∀ {acc : List Int}, acc.length ≤ i →
    Ev (fun k => wardenref09_all.l0 k s acc (i : Int)) (([] : List Int), false) := by
  induction h with
  | here i hi hb =>
    intro acc hl
    refine Ev.step (f := fun k => (wardenref09_Read.f k (s.extract ((i : Int)).toNat s.size)).bind fun bt => if bt.1 < 0 then some (([] : List Int), false) else if acc.length < 17592186044416 then wardenref09_all.l0 k s (acc ++ [bt.1]) (wrap64 ((i : Int) + bt.2)) else none) (fun k => by
      simp only [wardenref09_all.l0]
      rw [if_pos (by omega), if_pos (by omega), if_pos (by omega)]) ?_
    refine Ev.bind (read_at s i hi) ?_
    rw [hb]
    exact Ev.now _
  | step i hi hb hr ih =>
    intro acc hl
    have hwd := width_pos s i hi
    have hlt := hr.lt
    refine Ev.step (f := fun k => (wardenref09_Read.f k (s.extract ((i : Int)).toNat s.size)).bind fun bt => if bt.1 < 0 then some (([] : List Int), false) else if acc.length < 17592186044416 then wardenref09_all.l0 k s (acc ++ [bt.1]) (wrap64 ((i : Int) + bt.2)) else none) (fun k => by
      simp only [wardenref09_all.l0]
      rw [if_pos (by omega), if_pos (by omega), if_pos (by omega)]) ?_
    refine Ev.bind (read_at s i hi) ?_
    rw [hb]
    simp only [Bool.false_eq_true, if_false]
    refine Ev.congr (f := fun k => wardenref09_all.l0 k s (acc ++ [((Utf8.decode s i).1 : Int)]) ((i + (Utf8.decode s i).2 : Nat) : Int)) (fun k => ?_) ?_
    · rw [if_neg (by omega), if_pos (by omega), wrap64_small _ (by omega) (by omega), Int.natCast_add]
    · exact ih (by simp; omega)

theorem all_f_text {s : ByteArray} (hs : s.size ≤ 1000000) {rs : List Nat} (h : Text s 0 rs) : Ev (fun k => wardenref09_all.f k s) (ints rs, true) := all_text hs h (by simp)
theorem all_f_bad {s : ByteArray} (hs : s.size ≤ 1000000) (h : BadFrom s 0) : Ev (fun k => wardenref09_all.f k s) (([] : List Int), false) := all_bad hs h (by simp)

theorem ref_letter (r : Int) : wardenref09_Letter.f r = some (isLetter r) := by
  have e : isLetter r = decide ((97 ≤ r ∧ r ≤ 122) ∨ (65 ≤ r ∧ r ≤ 90) ∨ r = 95 ∨ (192 ≤ r ∧ r ≠ 215 ∧ r ≠ 247 ∧ ((0 ≤ r ∧ r < 55296) ∨ (57343 < r ∧ r ≤ 1114111)))) := by
    unfold isLetter letterTest Lib.validRune
    rw [Bool.eq_iff_iff, decide_eq_true_iff]
    simp [or_assoc, and_assoc]
  rw [e]
  unfold wardenref09_Letter.f
  repeat' split
  all_goals
    congr 1
    first
      | (symm; rw [decide_eq_true_iff]; omega)
      | (symm; rw [decide_eq_false_iff_not]; omega)
      | (rw [decide_eq_decide]; omega)

theorem rd_ints (rs : List Nat) (i : Nat) (c : Nat) (h : rs[i]? = some c) : rd (ints rs) (i : Int) = c := by
  unfold rd ints
  rw [List.getD_eq_getElem?_getD, List.getElem?_map]
  show ((rs[i]?).map Int.ofNat).getD 0 = _
  rw [h]
  rfl

def signN (x y : Int) : Int := if x < y then -1 else if x > y then 1 else 0

theorem ref_sign (x y : Int) : wardenref09_sign.f x y = some (signN x y) := by
  unfold wardenref09_sign.f signN
  split
  · rfl
  · split <;> rfl

theorem ints_length (rs : List Nat) : (ints rs).length = rs.length := by simp [ints]

theorem cmp_runes (rs ts : List Nat) (hl : rs.length ≤ 1000000) (_ : ts.length ≤ 1000000) : ∀ n i, rs.length - i = n → i ≤ rs.length → i ≤ ts.length → Ev (fun k => wardenref09_Compare.l1 k (ints rs) (ints ts) (i : Int)) (cmpN (rs.drop i) (ts.drop i)) := by
  intro n
  induction n with
  | zero =>
    intro i hn hi hj
    refine ⟨2, fun k hk => ?_⟩
    obtain ⟨k, rfl⟩ : ∃ m, k = m + 2 := ⟨k - 2, by omega⟩
    simp only [wardenref09_Compare.l1]
    rw [ints_length, if_neg (by omega)]
    simp only [wardenref09_Compare.j4, Bool.false_eq_true, if_false]
    rw [ref_sign, ints_length, ints_length, List.drop_of_length_le (l := rs) (by omega)]
    simp only [Option.bind_some]
    unfold signN
    by_cases h : ts.length ≤ i
    · rw [List.drop_of_length_le h, if_neg (by omega), if_neg (by omega)]
      rfl
    · rw [if_pos (by omega), List.drop_eq_getElem_cons (by omega)]
      rfl
  | succ n ih =>
    intro i hn hi hj
    have hlt : i < rs.length := by omega
    by_cases h : i < ts.length
    · obtain ⟨c, hc⟩ : ∃ c, rs[i]? = some c := ⟨_, List.getElem?_eq_getElem hlt⟩
      obtain ⟨d, hd⟩ : ∃ c, ts[i]? = some c := ⟨_, List.getElem?_eq_getElem h⟩
      obtain ⟨K, hK⟩ := ih (i + 1) (by omega) (by omega) (by omega)
      refine ⟨K + 2, fun k hk => ?_⟩
      obtain ⟨k, rfl⟩ : ∃ m, k = m + 2 := ⟨k - 2, by omega⟩
      have hK : wardenref09_Compare.l1 k (ints rs) (ints ts) ((i + 1 : Nat) : Int) = some (cmpN (rs.drop (i + 1)) (ts.drop (i + 1))) := hK k (by omega)
      simp only [wardenref09_Compare.l1]
      rw [ints_length, if_pos (by omega), ints_length, decide_eq_true (by omega)]
      simp only [wardenref09_Compare.j4, if_true]
      rw [ints_length, ints_length, if_pos (by omega), if_pos (by omega), if_pos (by omega), rd_ints rs i c hc, rd_ints ts i d hd, ref_sign, wrap64_small _ (by omega) (by omega), show (i : Int) + 1 = ((i + 1 : Nat) : Int) by omega, hK]
      rw [List.drop_eq_getElem_cons hlt, List.drop_eq_getElem_cons h, (List.getElem?_eq_some_iff.1 hc).2, (List.getElem?_eq_some_iff.1 hd).2]
      show _ = some (if c < d then -1 else if d < c then 1 else cmpN (rs.drop (i + 1)) (ts.drop (i + 1)))
      unfold signN
      simp only [Option.bind_some]
      rcases Nat.lt_trichotomy c d with e | e | e
      · rw [if_neg (by omega), if_pos (by omega), if_pos e]
      · rw [if_pos (by omega), if_neg (by omega), if_neg (by omega)]
      · rw [if_neg (by omega), if_neg (by omega), if_pos (by omega), if_neg (by omega), if_pos e]
    · refine ⟨2, fun k hk => ?_⟩
      obtain ⟨k, rfl⟩ : ∃ m, k = m + 2 := ⟨k - 2, by omega⟩
      simp only [wardenref09_Compare.l1]
      rw [ints_length, if_pos (by omega), ints_length, decide_eq_false (by omega)]
      simp only [wardenref09_Compare.j4, Bool.false_eq_true, if_false]
      rw [ref_sign, ints_length, ints_length, List.drop_of_length_le (l := ts) (by omega), List.drop_eq_getElem_cons hlt]
      unfold signN
      rw [if_neg (by omega), if_pos (by omega)]
      rfl

theorem cmp_texts (a b : ByteArray) (ha : a.size ≤ 1000000) (_ : b.size ≤ 1000000) : ∀ n i, a.size - i = n → i ≤ a.size → i ≤ b.size → Ev (fun k => wardenref09_Compare.l0 k a b (i : Int)) (Lib.compareBytes (a.data.toList.drop i) (b.data.toList.drop i)) := by
  have la : a.data.toList.length = a.size := Array.length_toList
  have lb : b.data.toList.length = b.size := Array.length_toList
  have hat : ∀ (s : ByteArray) i, i < s.size → s.data.toList.drop i = UInt8.ofNat (byteN s 0 i) :: s.data.toList.drop (i + 1) := fun s i hi => by
    have g := list_byteN s 0 i (by omega)
    rw [List.drop_zero] at g
    exact drop_cons4 (by rw [List.getElem?_drop]; exact g)
  intro n
  induction n with
  | zero =>
    intro i hn hi hj
    refine ⟨2, fun k hk => ?_⟩
    obtain ⟨k, rfl⟩ : ∃ m, k = m + 2 := ⟨k - 2, by omega⟩
    simp only [wardenref09_Compare.l0]
    rw [if_neg (by omega)]
    simp only [wardenref09_Compare.j2, Bool.false_eq_true, if_false]
    rw [ref_sign, List.drop_of_length_le (l := a.data.toList) (by omega)]
    unfold signN
    by_cases h : b.size ≤ i
    · rw [List.drop_of_length_le (by omega), if_neg (by omega), if_neg (by omega)]
      rfl
    · rw [if_pos (by omega), hat b i (by omega)]
      rfl
  | succ n ih =>
    intro i hn hi hj
    have hlt : i < a.size := by omega
    by_cases h : i < b.size
    · obtain ⟨K, hK⟩ := ih (i + 1) (by omega) (by omega) (by omega)
      refine ⟨K + 2, fun k hk => ?_⟩
      obtain ⟨k, rfl⟩ : ∃ m, k = m + 2 := ⟨k - 2, by omega⟩
      have hK : wardenref09_Compare.l0 k a b ((i + 1 : Nat) : Int) = some (Lib.compareBytes (a.data.toList.drop (i + 1)) (b.data.toList.drop (i + 1))) := hK k (by omega)
      have h1 := byteN_lt a 0 i
      have h2 := byteN_lt b 0 i
      simp only [wardenref09_Compare.l0]
      rw [if_pos (by omega), decide_eq_true (by omega)]
      simp only [wardenref09_Compare.j2, if_true]
      rw [if_pos (by omega), if_pos (by omega), if_pos (by omega), bt_nat a i hlt, bt_nat b i h, ref_sign, wrap64_small ((i : Int) + 1) (by omega) (by omega), show (i : Int) + 1 = ((i + 1 : Nat) : Int) by omega, hK]
      rw [wrap64_small (byteN a 0 i) (by omega) (by omega), wrap64_small (byteN b 0 i) (by omega) (by omega), hat a i hlt, hat b i h, cmp_cons _ _ h1 h2]
      unfold signN
      simp only [Option.bind_some]
      rcases Nat.lt_trichotomy (byteN a 0 i) (byteN b 0 i) with e | e | e
      · rw [if_neg (by omega), if_pos (by omega), if_pos e]
      · rw [if_pos (by omega), if_neg (by omega), if_neg (by omega)]
      · rw [if_neg (by omega), if_neg (by omega), if_pos (by omega), if_neg (by omega), if_pos e]
    · refine ⟨2, fun k hk => ?_⟩
      obtain ⟨k, rfl⟩ : ∃ m, k = m + 2 := ⟨k - 2, by omega⟩
      simp only [wardenref09_Compare.l0]
      rw [if_pos (by omega), decide_eq_false (by omega)]
      simp only [wardenref09_Compare.j2, Bool.false_eq_true, if_false]
      rw [ref_sign, List.drop_of_length_le (l := b.data.toList) (by omega), hat a i hlt]
      unfold signN
      rw [if_neg (by omega), if_pos (by omega)]
      rfl

theorem runes_le {s : ByteArray} : ∀ {rs : List Nat} {i : Nat}, Text s i rs → rs.length + i ≤ s.size := by
  intro rs
  induction rs with
  | nil => intro i h; have := h.nil; simp; omega
  | cons c rs ih =>
    intro i h
    have := ih h.cons.2.2.2.1
    have hp := encL_pos c
    simp
    omega

theorem ref_compare {a b : ByteArray} (ha : a.size ≤ 1000000) (hb : b.size ≤ 1000000) : Ev (fun k => wardenref09_Compare.f k a b) (nameCompare a b) := by
  rcases text_or a a.size 0 rfl (by omega) with ⟨rs, h⟩ | h
  · have hl := runes_le h
    rcases text_or b b.size 0 rfl (by omega) with ⟨ts, g⟩ | g
    · have hm := runes_le g
      refine Ev.bind (all_f_text ha h) (Ev.bind (all_f_text hb g) ?_)
      simp only [if_true]
      refine Ev.step (f := fun k => wardenref09_Compare.l1 k (ints rs) (ints ts) 0) (fun k => by simp only [wardenref09_Compare.j0, Bool.false_eq_true, if_false, if_true]) ?_
      have e : nameCompare a b = cmpN (rs.drop 0) (ts.drop 0) := by
        unfold nameCompare
        rw [runes_text h, runes_text g, if_pos (by simp)]
        have h1 := h.1
        have g1 := g.1
        rw [List.drop_zero] at h1 g1
        rw [h1, g1, cmp_bytes h.2.1 g.2.1]
        rfl
      rw [e]
      exact cmp_runes rs ts (by omega) (by omega) _ 0 rfl (by omega) (by omega)
    · refine Ev.bind (all_f_text ha h) (Ev.bind (all_f_bad hb g) ?_)
      simp only [if_true]
      refine Ev.step (f := fun _ => some (-1)) (fun k => by simp only [wardenref09_Compare.j0, Bool.false_eq_true, if_false, if_true]) ?_
      have e : nameCompare a b = -1 := by
        unfold nameCompare
        rw [runes_text h, runes_bad g, if_neg (by simp), if_pos (by omega)]
      rw [e]
      exact Ev.now _
  · rcases text_or b b.size 0 rfl (by omega) with ⟨ts, g⟩ | g
    · refine Ev.bind (all_f_bad ha h) (Ev.bind (all_f_text hb g) ?_)
      refine Ev.step (f := fun _ => some 1) (fun k => by simp only [wardenref09_Compare.j0, Bool.false_eq_true, if_false, Bool.not_true]) ?_
      have e : nameCompare a b = 1 := by
        unfold nameCompare
        rw [runes_bad h, runes_text g, if_neg (by simp), if_neg (by omega)]
      rw [e]
      exact Ev.now _
    · refine Ev.bind (all_f_bad ha h) (Ev.bind (all_f_bad hb g) ?_)
      refine Ev.step (f := fun k => wardenref09_Compare.l0 k a b 0) (fun k => by simp only [wardenref09_Compare.j0, Bool.false_eq_true, if_false, Bool.not_false, if_true]) ?_
      have e : nameCompare a b = Lib.compareBytes (a.data.toList.drop 0) (b.data.toList.drop 0) := by
        unfold nameCompare
        rw [runes_bad h, runes_bad g, if_pos (by simp)]
        rfl
      rw [e]
      exact cmp_texts a b ha hb _ 0 rfl (by omega) (by omega)

theorem NameLetters : wardenlaw09_NameLetters.Pure := by
  intro r a b hr ha hb
  have hr := wf_i32 hr
  unfold wardenlaw09_NameLetters.f
  by_cases h1 : (a.size : Int) > 4096
  · refine ⟨1, ?_⟩
    rw [if_pos h1]
    simp only [wardenlaw09_NameLetters.j0, if_true]
    rw [alive_true]
    rfl
  · by_cases h2 : (b.size : Int) > 4096
    · refine ⟨1, ?_⟩
      rw [if_neg h1, decide_eq_true h2]
      simp only [wardenlaw09_NameLetters.j0, if_true]
      rw [alive_true]
      rfl
    · have e1 : name_Letter.f r = some (isLetter r) := rfl
      have e2 : name_Compare.f a b = some (nameCompare a b) := if_pos ⟨by omega, by omega⟩
      refine Ev.rounds (g := fun k => _) ?_
      refine Ev.step (f := fun k => (wardenref09_Compare.f k a b).bind fun t143 => if nameCompare a b = t143 then some true else some false) (fun k => ?_) ?_
      · rw [if_neg h1, decide_eq_false h2]
        simp only [wardenlaw09_NameLetters.j0, Bool.false_eq_true, if_false]
        rw [e1, e2, alive_true, show wrap64 r = r by unfold wrap64; omega, ref_letter]
        simp only [Option.bind_some, beq_self_eq_true, if_true]
      · refine Ev.bind (ref_compare (by omega) (by omega)) ?_
        simp only [if_true]
        exact Ev.now _

end Go.Proofs.Ytmoememioelddaa.Pure
