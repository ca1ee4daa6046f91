/- Types: the document's May, as a contract. -/
import Derived.Test.YtkflofjcjolehaaBTypesSound3
import Derived.Test.YtkflofjcjolehaaBTypesSound4
import Derived.Test.YtkflofjcjolehaaBig10
import Derived.Test.YtkflofjcjolehaaBig13
import Derived.Test.YtkflofjcjolehaaBTypesSound2
namespace Go.Proofs.Ytkflofjcjolehaa.My
open Go.RowKit Go.Proofs.Ytkflofjcjolehaa.HMay Go.Proofs.YtkflofjcjolehaaW.PrintWords Go.Proofs.YtkflofjcjolehaaW.PrintLast
set_option linter.unusedSimpArgs false
set_option linter.unusedVariables false

theorem bt_nat (s : ByteArray) (i : Nat) (h : i < s.size) : bt s i = byteN s 0 i := by
  unfold bt
  rw [dif_pos (by simpa using h)]
  have g := list_byteN s 0 i (by omega)
  rw [List.drop_zero, Array.getElem?_toList, Array.getElem?_eq_getElem (by simpa using h)] at g
  have g := Option.some.inj g
  show ((s.data[i]'(by simpa using h)).toNat : Int) = _
  rw [g, ofNat_toNat (byteN_lt s 0 i)]

theorem wrap64_small (x : Int) (h0 : -1000000000 ≤ x) (h1 : x ≤ 1000000000) : wrap64 x = x := by
  unfold wrap64
  omega

/-- A byte of a rune behind its first one. -/
def tailN (s : ByteArray) (i : Nat) : Int := if i < s.size ∧ byteN s 0 i / 64 = 2 then ((byteN s 0 i % 64 : Nat) : Int) else -1

theorem tail_eq (s : ByteArray) (i : Nat) : wardenref09_tail.f s (i : Int) = some (tailN s i) := by
  unfold wardenref09_tail.f tailN
  by_cases h : i < s.size
  · have hb := byteN_lt s 0 i
    rw [if_neg (by omega), if_pos (by omega), if_pos (by omega), bt_nat s i h]
    rcases Nat.lt_or_ge (byteN s 0 i) 128 with h1 | h1
    · rw [if_pos (by omega), if_neg (by omega)]
    · rw [if_neg (by omega)]
      rcases Nat.lt_or_ge 191 (byteN s 0 i) with h2 | h2
      · rw [if_pos (by omega), if_neg (by omega)]
      · rw [if_neg (by omega), if_pos (by omega), wrap64_small (byteN s 0 i) (by omega) (by omega), wrap64_small _ (by omega) (by omega)]
        congr 1
        omega
  · rw [if_pos (by omega), if_neg (by omega)]

/-- What the reference reads of a text that is not empty. -/
def readN (s : ByteArray) : Int × Int := if badAt s 0 then (-1, 0) else (((Utf8.decode s 0).1 : Int), ((Utf8.decode s 0).2 : Int))

theorem tailN_range (s : ByteArray) (i : Nat) : -1 ≤ tailN s i ∧ tailN s i ≤ 63 := by
  unfold tailN
  split <;> omega

theorem read_step (s : ByteArray) (k : Nat) (n r least : Int) (j : Nat) (hj : (j : Int) < n) (hr0 : 0 ≤ r) (hr1 : r ≤ 1000000) (hj2 : j < 10) :
    wardenref09_Read.l0 (k + 1) s n r least j = if tailN s j < 0 then some (-1, 0) else wardenref09_Read.l0 k s n (64 * r + tailN s j) least ((j + 1 : Nat) : Int) := by
  have ht := tailN_range s j
  simp only [wardenref09_Read.l0]
  rw [if_pos hj, tail_eq]
  simp only [Option.bind_some]
  rw [wrap64_small (64 * r) (by omega) (by omega), wrap64_small _ (by omega) (by omega), wrap64_small ((j : Int) + 1) (by omega) (by omega)]
  rfl

theorem read_end (s : ByteArray) (k : Nat) (n r least : Int) : wardenref09_Read.l0 (k + 1) s n r least n = if r < least ∨ r > 1114111 ∨ (r ≥ 55296 ∧ r ≤ 57343) then some (-1, 0) else some (r, n) := by
  simp only [wardenref09_Read.l0]
  rw [if_neg (by omega)]
  by_cases h1 : r < least
  · rw [if_pos h1, if_pos (.inl h1)]
  · rw [if_neg h1]
    by_cases h2 : r > 1114111
    · rw [if_pos h2, if_pos (.inr (.inl h2))]
    · rw [if_neg h2]
      by_cases h3 : r ≥ 55296
      · rw [if_pos h3]
        by_cases h4 : r ≤ 57343
        · rw [if_pos h4, if_pos (.inr (.inr ⟨h3, h4⟩))]
        · rw [if_neg h4, if_neg (by omega)]
      · rw [if_neg h3, if_neg (by omega)]

/-- The model's decoding, as a chain of tests. -/
theorem decode_tests (s : ByteArray) (h : 0 < s.size) : readN s =
    if byteN s 0 0 < 128 then ((byteN s 0 0 : Int), 1)
    else if byteN s 0 0 / 32 = 6 then (if tailN s 1 < 0 then (-1, 0) else if 64 * ((byteN s 0 0 : Int) - 192) + tailN s 1 < 128 then (-1, 0) else (64 * ((byteN s 0 0 : Int) - 192) + tailN s 1, 2))
    else if byteN s 0 0 / 16 = 14 then (if tailN s 1 < 0 then (-1, 0) else if tailN s 2 < 0 then (-1, 0) else
      if 64 * (64 * ((byteN s 0 0 : Int) - 224) + tailN s 1) + tailN s 2 < 2048 ∨ (64 * (64 * ((byteN s 0 0 : Int) - 224) + tailN s 1) + tailN s 2 ≥ 55296 ∧ 64 * (64 * ((byteN s 0 0 : Int) - 224) + tailN s 1) + tailN s 2 ≤ 57343) then (-1, 0)
      else (64 * (64 * ((byteN s 0 0 : Int) - 224) + tailN s 1) + tailN s 2, 3))
    else if byteN s 0 0 / 8 = 30 then (if tailN s 1 < 0 then (-1, 0) else if tailN s 2 < 0 then (-1, 0) else if tailN s 3 < 0 then (-1, 0) else
      if 64 * (64 * (64 * ((byteN s 0 0 : Int) - 240) + tailN s 1) + tailN s 2) + tailN s 3 < 65536 ∨ 64 * (64 * (64 * ((byteN s 0 0 : Int) - 240) + tailN s 1) + tailN s 2) + tailN s 3 > 1114111 then (-1, 0)
      else (64 * (64 * (64 * ((byteN s 0 0 : Int) - 240) + tailN s 1) + tailN s 2) + tailN s 3, 4))
    else (-1, 0) := by
  have b0 := byteN_lt s 0 0
  have b1 := byteN_lt s 0 1
  have b2 := byteN_lt s 0 2
  have b3 := byteN_lt s 0 3
  have hd := dec_of s 0
  unfold readN badAt
  by_cases hbad : (Utf8.decode s 0).1 = 65533 ∧ (Utf8.decode s 0).2 = 1
  · have e : ((Utf8.decode s 0).1 == 65533 && (Utf8.decode s 0).2 == 1) = true := by simp [hbad.1, hbad.2]
    rw [e, if_pos rfl]
    -- no rune: none of the ways is open
    have key : ∀ c m, validN c = true → s.data.toList.drop 0 = encL c ++ m → False := fun c m hv hm => by
      have := not_bad s 0 c m hv hm
      unfold badAt at this
      rw [e] at this
      cases this
    have lb : ∀ k, k < s.size → s.data.toList.drop k = UInt8.ofNat (byteN s 0 k) :: s.data.toList.drop (k + 1) := fun k hk => by
      have g := list_byteN s 0 k (by omega)
      rw [List.drop_zero] at g
      exact drop_cons4 (by rw [List.getElem?_drop]; exact g)
    have n0 := lb 0 h
    split
    · rename_i g
      exact (key (byteN s 0 0) (s.data.toList.drop 1) (by unfold validN; simp; omega) (by rw [n0]; unfold encL; rw [if_pos g]; rfl)).elim
    · split
      · rename_i g
        split
        · rfl
        · split
          · rfl
          · rename_i t1 t2
            exfalso
            unfold tailN at t1 t2
            split at t1
            · rename_i q1
              rw [if_pos q1] at t2
              obtain ⟨c, hc⟩ : ∃ c, byteN s 0 0 % 32 * 64 + byteN s 0 1 % 64 = c := ⟨_, rfl⟩
              refine key c (s.data.toList.drop 2) (by unfold validN; simp; omega) ?_
              rw [n0, lb 1 q1.1]
              unfold encL
              rw [if_neg (by omega), if_pos (by omega), show 192 + c / 64 = byteN s 0 0 by omega, show 128 + c % 64 = byteN s 0 1 by omega]
              rfl
            · omega
      · split
        · rename_i g
          split
          · rfl
          · split
            · rfl
            · split
              · rfl
              · rename_i t1 t2 t3
                exfalso
                unfold tailN at t1 t2 t3
                split at t1
                · rename_i q1
                  rw [if_pos q1] at t3
                  split at t2
                  · rename_i q2
                    rw [if_pos q2] at t3
                    obtain ⟨c, hc⟩ : ∃ c, byteN s 0 0 % 16 * 4096 + byteN s 0 1 % 64 * 64 + byteN s 0 2 % 64 = c := ⟨_, rfl⟩
                    refine key c (s.data.toList.drop 3) (by unfold validN; simp; omega) ?_
                    rw [n0, lb 1 q1.1, lb 2 q2.1]
                    unfold encL
                    rw [if_neg (by omega), if_neg (by omega), if_pos (by omega), show 224 + c / 4096 = byteN s 0 0 by omega, show 128 + c / 64 % 64 = byteN s 0 1 by omega, show 128 + c % 64 = byteN s 0 2 by omega]
                    rfl
                  · omega
                · omega
        · split
          · rename_i g
            split
            · rfl
            · split
              · rfl
              · split
                · rfl
                · split
                  · rfl
                  · rename_i t1 t2 t3 t4
                    exfalso
                    unfold tailN at t1 t2 t3 t4
                    split at t1
                    · rename_i q1
                      rw [if_pos q1] at t4
                      split at t2
                      · rename_i q2
                        rw [if_pos q2] at t4
                        split at t3
                        · rename_i q3
                          rw [if_pos q3] at t4
                          obtain ⟨c, hc⟩ : ∃ c, byteN s 0 0 % 8 * 262144 + byteN s 0 1 % 64 * 4096 + byteN s 0 2 % 64 * 64 + byteN s 0 3 % 64 = c := ⟨_, rfl⟩
                          refine key c (s.data.toList.drop 4) (by unfold validN; simp; omega) ?_
                          rw [n0, lb 1 q1.1, lb 2 q2.1, lb 3 q3.1]
                          unfold encL
                          rw [if_neg (by omega), if_neg (by omega), if_neg (by omega), show 240 + c / 262144 = byteN s 0 0 by omega, show 128 + c / 4096 % 64 = byteN s 0 1 by omega, show 128 + c / 64 % 64 = byteN s 0 2 by omega, show 128 + c % 64 = byteN s 0 3 by omega]
                          rfl
                        · omega
                      · omega
                    · omega
          · rfl
  · have e : ((Utf8.decode s 0).1 == 65533 && (Utf8.decode s 0).2 == 1) = false := by
      cases hq : ((Utf8.decode s 0).1 == 65533 && (Utf8.decode s 0).2 == 1)
      · rfl
      · simp at hq
        exact (hbad hq).elim
    rw [e]
    simp only [Bool.false_eq_true, if_false]
    clear e
    generalize (Utf8.decode s 0).1 = c at hd hbad
    generalize (Utf8.decode s 0).2 = v at hd hbad
    cases hd with
    | one g => rw [if_pos g]; rfl
    | bad => exact (hbad ⟨rfl, rfl⟩).elim
    | two g0 l1 g1 hm =>
      have t1 : tailN s 1 = ((byteN s 0 1 % 64 : Nat) : Int) := by unfold tailN; rw [if_pos ⟨by omega, g1⟩]
      rw [if_neg (by omega), if_pos g0, t1, if_neg (by omega), if_neg (by omega)]
      congr 1
      omega
    | three g0 l1 g1 l2 g2 hm hv =>
      have t1 : tailN s 1 = ((byteN s 0 1 % 64 : Nat) : Int) := by unfold tailN; rw [if_pos ⟨by omega, g1⟩]
      have t2 : tailN s 2 = ((byteN s 0 2 % 64 : Nat) : Int) := by unfold tailN; rw [if_pos ⟨by omega, g2⟩]
      simp [Utf8.valid] at hv
      rw [if_neg (by omega), if_neg (by omega), if_pos g0, t1, t2, if_neg (by omega), if_neg (by omega), if_neg (by omega)]
      congr 1
      omega
    | four g0 l1 g1 l2 g2 l3 g3 hm hv =>
      have t1 : tailN s 1 = ((byteN s 0 1 % 64 : Nat) : Int) := by unfold tailN; rw [if_pos ⟨by omega, g1⟩]
      have t2 : tailN s 2 = ((byteN s 0 2 % 64 : Nat) : Int) := by unfold tailN; rw [if_pos ⟨by omega, g2⟩]
      have t3 : tailN s 3 = ((byteN s 0 3 % 64 : Nat) : Int) := by unfold tailN; rw [if_pos ⟨by omega, g3⟩]
      simp [Utf8.valid] at hv
      rw [if_neg (by omega), if_neg (by omega), if_neg (by omega), if_pos g0, t1, t2, t3, if_neg (by omega), if_neg (by omega), if_neg (by omega), if_neg (by omega)]
      congr 1
      omega

set_option maxRecDepth 100000 in
theorem read_eq (s : ByteArray) (h : 0 < s.size) : Ev (fun k => wardenref09_Read.f k s) (readN s) := by
  refine ⟨12, fun k hk => ?_⟩
  obtain ⟨k, rfl⟩ : ∃ m, k = m + 10 := ⟨k - 10, by omega⟩
  have b0 := byteN_lt s 0 0
  have hne : ¬ s.toList = ([] : List UInt8) := by
    rw [ByteArray.toList_eq]
    intro he
    have := congrArg List.length he
    rw [Array.length_toList, List.length_nil] at this
    have : s.size = 0 := this
    omega
  have r1 := tailN_range s 1
  have r2 := tailN_range s 2
  have r3 := tailN_range s 3
  rw [decode_tests s h]
  show wardenref09_Read.f (k + 10) s = _
  unfold wardenref09_Read.f
  have hb := bt_nat s 0 h
  rw [show ((0 : Nat) : Int) = 0 from rfl] at hb
  rw [if_neg hne, if_pos (by omega), hb, wrap64_small (byteN s 0 0) (by omega) (by omega)]
  by_cases c0 : byteN s 0 0 < 128
  · rw [if_pos (by omega), if_pos c0]
  · rw [if_neg (by omega), if_neg c0]
    by_cases c1 : byteN s 0 0 / 32 = 6
    · rw [if_pos (by omega), if_pos c1, decide_eq_true (show (byteN s 0 0 : Int) < 224 by omega)]
      simp only [wardenref09_Read.j0, wardenref09_Read.j2, if_true]
      rw [wrap64_small _ (by omega) (by omega)]
      have s1 := read_step s (k + 7) 2 ((byteN s 0 0 : Int) - 192) 128 1 (by omega) (by omega) (by omega) (by omega)
      rw [show ((1 : Nat) : Int) = 1 from rfl] at s1
      rw [s1]
      by_cases t1 : tailN s 1 < 0
      · rw [if_pos t1, if_pos t1]
      · rw [if_neg t1, if_neg t1]
        have s2 := read_end s (k + 6) 2 (64 * ((byteN s 0 0 : Int) - 192) + tailN s 1) 128
        rw [show (((1 + 1 : Nat)) : Int) = 2 from rfl, s2]
        by_cases q : 64 * ((byteN s 0 0 : Int) - 192) + tailN s 1 < 128
        · rw [if_pos (.inl q), if_pos q]
        · rw [if_neg (by omega), if_neg q]
    · rw [if_neg c1]
      by_cases c2 : byteN s 0 0 / 16 = 14
      · rw [if_pos (by omega), if_pos c2, decide_eq_false (show ¬ (byteN s 0 0 : Int) < 224 by omega)]
        simp only [wardenref09_Read.j0, Bool.false_eq_true, if_false]
        rw [if_pos (by omega), decide_eq_true (show (byteN s 0 0 : Int) < 240 by omega)]
        simp only [wardenref09_Read.j1, wardenref09_Read.j2, if_true]
        rw [wrap64_small _ (by omega) (by omega)]
        have s1 := read_step s (k + 6) 3 ((byteN s 0 0 : Int) - 224) 2048 1 (by omega) (by omega) (by omega) (by omega)
        rw [show ((1 : Nat) : Int) = 1 from rfl] at s1
        rw [s1]
        by_cases t1 : tailN s 1 < 0
        · rw [if_pos t1, if_pos t1]
        · rw [if_neg t1, if_neg t1]
          have s2 := read_step s (k + 5) 3 (64 * ((byteN s 0 0 : Int) - 224) + tailN s 1) 2048 2 (by omega) (by omega) (by omega) (by omega)
          rw [s2]
          by_cases t2 : tailN s 2 < 0
          · rw [if_pos t2, if_pos t2]
          · rw [if_neg t2, if_neg t2]
            have s3 := read_end s (k + 4) 3 (64 * (64 * ((byteN s 0 0 : Int) - 224) + tailN s 1) + tailN s 2) 2048
            rw [show (((2 + 1 : Nat)) : Int) = 3 from rfl, s3]
            by_cases q : 64 * (64 * ((byteN s 0 0 : Int) - 224) + tailN s 1) + tailN s 2 < 2048 ∨ (64 * (64 * ((byteN s 0 0 : Int) - 224) + tailN s 1) + tailN s 2 ≥ 55296 ∧ 64 * (64 * ((byteN s 0 0 : Int) - 224) + tailN s 1) + tailN s 2 ≤ 57343)
            · rw [if_pos (by omega), if_pos q]
            · rw [if_neg (by omega), if_neg q]
      · rw [if_neg c2]
        by_cases c3 : byteN s 0 0 / 8 = 30
        · rw [if_pos (by omega), if_pos c3, decide_eq_false (show ¬ (byteN s 0 0 : Int) < 224 by omega)]
          simp only [wardenref09_Read.j0, Bool.false_eq_true, if_false]
          rw [if_pos (by omega), decide_eq_false (show ¬ (byteN s 0 0 : Int) < 240 by omega)]
          simp only [wardenref09_Read.j1, Bool.false_eq_true, if_false]
          rw [if_pos (by omega), if_pos (by omega)]
          simp only [wardenref09_Read.j2]
          rw [wrap64_small _ (by omega) (by omega)]
          have s1 := read_step s (k + 6) 4 ((byteN s 0 0 : Int) - 240) 65536 1 (by omega) (by omega) (by omega) (by omega)
          rw [show ((1 : Nat) : Int) = 1 from rfl] at s1
          rw [s1]
          by_cases t1 : tailN s 1 < 0
          · rw [if_pos t1, if_pos t1]
          · rw [if_neg t1, if_neg t1]
            have s2 := read_step s (k + 5) 4 (64 * ((byteN s 0 0 : Int) - 240) + tailN s 1) 65536 2 (by omega) (by omega) (by omega) (by omega)
            rw [s2]
            by_cases t2 : tailN s 2 < 0
            · rw [if_pos t2, if_pos t2]
            · rw [if_neg t2, if_neg t2]
              have s3 := read_step s (k + 4) 4 (64 * (64 * ((byteN s 0 0 : Int) - 240) + tailN s 1) + tailN s 2) 65536 3 (by omega) (by omega) (by omega) (by omega)
              rw [s3]
              by_cases t3 : tailN s 3 < 0
              · rw [if_pos t3, if_pos t3]
              · rw [if_neg t3, if_neg t3]
                have s4 := read_end s (k + 3) 4 (64 * (64 * (64 * ((byteN s 0 0 : Int) - 240) + tailN s 1) + tailN s 2) + tailN s 3) 65536
                rw [show (((3 + 1 : Nat)) : Int) = 4 from rfl, s4]
                by_cases q : 64 * (64 * (64 * ((byteN s 0 0 : Int) - 240) + tailN s 1) + tailN s 2) + tailN s 3 < 65536 ∨ 64 * (64 * (64 * ((byteN s 0 0 : Int) - 240) + tailN s 1) + tailN s 2) + tailN s 3 > 1114111
                · rw [if_pos (by omega), if_pos q]
                · rw [if_neg (by omega), if_neg q]
        · rw [if_neg c3]
          by_cases c4 : (byteN s 0 0 : Int) ≥ 192
          · rw [if_pos c4, decide_eq_false (show ¬ (byteN s 0 0 : Int) < 224 by omega)]
            simp only [wardenref09_Read.j0, Bool.false_eq_true, if_false]
            rw [if_pos (by omega), decide_eq_false (show ¬ (byteN s 0 0 : Int) < 240 by omega)]
            simp only [wardenref09_Read.j1, Bool.false_eq_true, if_false]
            rw [if_pos (by omega), if_neg (by omega)]
          · rw [if_neg c4]
            simp only [wardenref09_Read.j0, Bool.false_eq_true, if_false]
            rw [if_neg (by omega)]
            simp only [wardenref09_Read.j1, Bool.false_eq_true, if_false]
            rw [if_neg (by omega)]

/-- A text's rest reads as the text does from there on. -/
theorem decode_rest (s : ByteArray) (i : Nat) (h : i ≤ s.size) : Utf8.decode (s.extract i s.size) 0 = Utf8.decode s i := by
  have hz : (s.extract i s.size).size = s.size - i := by rw [ByteArray.size_extract]; omega
  have hg : ∀ k, (s.extract i s.size).get! (0 + k) = s.get! (i + k) := fun k => by
    by_cases hk : i + k < s.size
    · have g1 := get_extract s i k hk
      have g2 : (s.extract i s.size).data.toList[k]? = some ((s.extract i s.size).get! (0 + k)) := by
        have hk2 : 0 + k < (s.extract i s.size).data.size := by
          show 0 + k < (s.extract i s.size).size
          omega
        show _ = some ((s.extract i s.size).data[0 + k]!)
        rw [getElem!_pos (s.extract i s.size).data (0 + k) hk2, Array.getElem?_toList]
        rw [Array.getElem?_eq_getElem (by omega)]
        congr 1
        congr 1
        omega
      rw [g1] at g2
      exact (Option.some.inj g2).symm
    · show (s.extract i s.size).data[0 + k]! = s.data[i + k]!
      rw [getElem!_neg (s.extract i s.size).data (0 + k) (by show ¬ 0 + k < (s.extract i s.size).size; omega), getElem!_neg s.data (i + k) hk]
  have hs : ∀ k, (0 + k < (s.extract i s.size).size) = (i + k < s.size) := fun k => by
    apply propext
    rw [hz]
    omega
  simp only [Utf8.decode, hg, hs]

theorem readN_rest (s : ByteArray) (i : Nat) (h : i ≤ s.size) : readN (s.extract i s.size) = if badAt s i then (-1, 0) else (((Utf8.decode s i).1 : Int), ((Utf8.decode s i).2 : Int)) := by
  unfold readN badAt
  rw [decode_rest s i h]

theorem read_at (s : ByteArray) (i : Nat) (h : i < s.size) : Ev (fun k => wardenref09_Read.f k (s.extract ((i : Int)).toNat s.size)) (if badAt s i then (-1, 0) else (((Utf8.decode s i).1 : Int), ((Utf8.decode s i).2 : Int))) := by
  rw [← readN_rest s i (by omega)]
  exact read_eq _ (by rw [ByteArray.size_extract]; show 0 < min s.size s.size - ((i : Int)).toNat; omega)

/-- A row of runes, as the reference keeps it. -/
def ints (rs : List Nat) : List Int := rs.map Int.ofNat

theorem all_text {s : ByteArray} (hs : s.size ≤ 1000000) : ∀ {rs : List Nat} {i : Nat} {acc : List Int}, Text s i rs → acc.length ≤ i →
    Ev (fun k => wardenref09_all.l0 k s acc (i : Int)) (acc ++ ints rs, true) := by
  intro rs
  induction rs with
  | nil =>
    intro i acc h hl
    have := h.nil
    refine ⟨1, fun k hk => ?_⟩
    obtain ⟨k, rfl⟩ : ∃ m, k = m + 1 := ⟨k - 1, by omega⟩
    simp only [wardenref09_all.l0]
    rw [if_neg (by omega)]
    simp [ints]
  | cons c rs ih =>
    intro i acc h hl
    obtain ⟨hi, hb, hd, ht, hv⟩ := h.cons
    have hp := encL_pos c
    have hle := ht.2.2
    refine Ev.step (f := fun k => (wardenref09_Read.f k (s.extract ((i : Int)).toNat s.size)).bind fun bt => if bt.1 < 0 then some (([] : List Int), false) else if acc.length < 17592186044416 then wardenref09_all.l0 k s (acc ++ [bt.1]) (wrap64 ((i : Int) + bt.2)) else none) (fun k => by
      simp only [wardenref09_all.l0]
      rw [if_pos (by omega), if_pos (by omega), if_pos (by omega)]) ?_
    refine Ev.bind (read_at s i hi) ?_
    rw [hb, hd]
    simp only [Bool.false_eq_true, if_false]
    refine Ev.congr (f := fun k => wardenref09_all.l0 k s (acc ++ [(c : Int)]) ((i + (encL c).length : Nat) : Int)) (fun k => ?_) ?_
    · rw [if_neg (by omega), if_pos (by omega), wrap64_small _ (by omega) (by omega), Int.natCast_add]
    · have := ih (acc := acc ++ [(c : Int)]) ht (by simp; omega)
      simpa [ints] using this

theorem all_bad {s : ByteArray} (hs : s.size ≤ 1000000) {i : Nat} (h : BadFrom s i) : ∀ {acc : List Int}, acc.length ≤ i →
    Ev (fun k => wardenref09_all.l0 k s acc (i : Int)) (([] : List Int), false) := by
  induction h with
  | here i hi hb =>
    intro acc hl
    refine Ev.step (f := fun k => (wardenref09_Read.f k (s.extract ((i : Int)).toNat s.size)).bind fun bt => if bt.1 < 0 then some (([] : List Int), false) else if acc.length < 17592186044416 then wardenref09_all.l0 k s (acc ++ [bt.1]) (wrap64 ((i : Int) + bt.2)) else none) (fun k => by
      simp only [wardenref09_all.l0]
      rw [if_pos (by omega), if_pos (by omega), if_pos (by omega)]) ?_
    refine Ev.bind (read_at s i hi) ?_
    rw [hb]
    exact Ev.now _
  | step i hi hb hr ih =>
    intro acc hl
    have hwd := width_pos s i hi
    have hlt := hr.lt
    refine Ev.step (f := fun k => (wardenref09_Read.f k (s.extract ((i : Int)).toNat s.size)).bind fun bt => if bt.1 < 0 then some (([] : List Int), false) else if acc.length < 17592186044416 then wardenref09_all.l0 k s (acc ++ [bt.1]) (wrap64 ((i : Int) + bt.2)) else none) (fun k => by
      simp only [wardenref09_all.l0]
      rw [if_pos (by omega), if_pos (by omega), if_pos (by omega)]) ?_
    refine Ev.bind (read_at s i hi) ?_
    rw [hb]
    simp only [Bool.false_eq_true, if_false]
    refine Ev.congr (f := fun k => wardenref09_all.l0 k s (acc ++ [((Utf8.decode s i).1 : Int)]) ((i + (Utf8.decode s i).2 : Nat) : Int)) (fun k => ?_) ?_
    · rw [if_neg (by omega), if_pos (by omega), wrap64_small _ (by omega) (by omega), Int.natCast_add]
    · exact ih (by simp; omega)

theorem all_f_text {s : ByteArray} (hs : s.size ≤ 1000000) {rs : List Nat} (h : Text s 0 rs) : Ev (fun k => wardenref09_all.f k s) (ints rs, true) := all_text hs h (by simp)
theorem all_f_bad {s : ByteArray} (hs : s.size ≤ 1000000) (h : BadFrom s 0) : Ev (fun k => wardenref09_all.f k s) (([] : List Int), false) := all_bad hs h (by simp)

theorem ref_letter (r : Int) : wardenref09_Letter.f r = some (isLetter r) := by
  have e : isLetter r = decide ((97 ≤ r ∧ r ≤ 122) ∨ (65 ≤ r ∧ r ≤ 90) ∨ r = 95 ∨ (192 ≤ r ∧ r ≠ 215 ∧ r ≠ 247 ∧ ((0 ≤ r ∧ r < 55296) ∨ (57343 < r ∧ r ≤ 1114111)))) := by
    unfold isLetter letterTest Lib.validRune
    rw [Bool.eq_iff_iff, decide_eq_true_iff]
    simp [or_assoc, and_assoc]
  rw [e]
  unfold wardenref09_Letter.f
  repeat' split
  all_goals
    congr 1
    first
      | (symm; rw [decide_eq_true_iff]; omega)
      | (symm; rw [decide_eq_false_iff_not]; omega)
      | (rw [decide_eq_decide]; omega)

theorem ref_digit (r : Int) : wardenref09_digit.f r = some (isDigit r) := by
  unfold wardenref09_digit.f isDigit
  by_cases h : 48 ≤ r
  · rw [if_pos h, decide_eq_true h]; rfl
  · rw [if_neg h, decide_eq_false h]; rfl

theorem rd_ints (rs : List Nat) (i : Nat) (c : Nat) (h : rs[i]? = some c) : rd (ints rs) (i : Int) = c := by
  unfold rd ints
  rw [List.getD_eq_getElem?_getD, List.getElem?_map]
  show ((rs[i]?).map Int.ofNat).getD 0 = _
  rw [h]
  rfl

theorem may_rest (rs : List Nat) (hl : rs.length ≤ 100) : ∀ n i, rs.length - i = n → i ≤ rs.length → Ev (fun k => wardenref09_May.l0 k (ints rs) (i : Int)) ((rs.drop i).all wordRune) := by
  have hlen : (ints rs).length = rs.length := by simp [ints]
  intro n
  induction n with
  | zero =>
    intro i hn hi
    refine ⟨1, fun k hk => ?_⟩
    obtain ⟨k, rfl⟩ : ∃ m, k = m + 1 := ⟨k - 1, by omega⟩
    simp only [wardenref09_May.l0]
    rw [hlen, if_neg (by omega), List.drop_of_length_le (by omega)]
    rfl
  | succ n ih =>
    intro i hn hi
    have hlt : i < rs.length := by omega
    obtain ⟨c, hc⟩ : ∃ c, rs[i]? = some c := ⟨_, List.getElem?_eq_getElem hlt⟩
    obtain ⟨K, hK⟩ := ih (i + 1) (by omega) (by omega)
    refine ⟨K + 1, fun k hk => ?_⟩
    obtain ⟨k, rfl⟩ : ∃ m, k = m + 1 := ⟨k - 1, by omega⟩
    have hK : wardenref09_May.l0 k (ints rs) ((i + 1 : Nat) : Int) = some ((rs.drop (i + 1)).all wordRune) := hK k (by omega)
    simp only [wardenref09_May.l0]
    rw [hlen, if_pos (by omega), if_pos (by omega), rd_ints rs i c hc, ref_letter, ref_digit]
    simp only [Option.bind_some]
    rw [wrap64_small _ (by omega) (by omega), show (i : Int) + 1 = ((i + 1 : Nat) : Int) by omega, hK, List.drop_eq_getElem_cons hlt, (List.getElem?_eq_some_iff.1 hc).2, List.all_cons]
    unfold wordRune
    cases isLetter (c : Int) <;> cases isDigit (c : Int) <;> simp

theorem digit_not_letter (c : Int) (h : isDigit c = true) : isLetter c = false := by
  unfold isDigit at h
  simp at h
  unfold isLetter letterTest
  simp
  omega

theorem ref_may {s : ByteArray} (hs : s.size ≤ 1000000) : Ev (fun k => wardenref09_May.f k s) (nameMay s) := by
  rcases text_or s s.size 0 rfl (by omega) with ⟨rs, h⟩ | h
  · rw [may_text h]
    refine Ev.bind (all_f_text hs h) ?_
    have hlen : (ints rs).length = rs.length := by simp [ints]
    simp only [if_true]
    rw [hlen]
    cases rs with
    | nil =>
      refine Ev.step (f := fun _ => some false) (fun k => ?_) (Ev.now _)
      rw [if_pos (by decide)]
      rfl
    | cons c rs =>
      rw [List.length_cons] at hlen ⊢
      by_cases h32 : rs.length < 32
      · have hr := rd_ints (c :: rs) 0 c rfl
        rw [show ((0 : Nat) : Int) = 0 from rfl] at hr
        refine Ev.congr (f := fun k => wardenref09_May.j0 k (ints (c :: rs)) (isDigit c)) (fun k => ?_) ?_
        · rw [if_neg (by omega), if_neg (by omega), if_pos (by omega), hr, ref_digit]
          rfl
        · refine Ev.step (f := fun k => if isDigit (c : Int) = true then some false else wardenref09_May.l0 k (ints (c :: rs)) 0) (fun k => by simp only [wardenref09_May.j0]) ?_
          have hm := may_rest (c :: rs) (by simp; omega) _ 0 rfl (by omega)
          have e : mayR (c :: rs) = (if isDigit (c : Int) = true then false else ((c :: rs).drop 0).all wordRune) := by
            show (decide (rs.length < 32) && isLetter (c : Int) && rs.all wordRune) = _
            rw [decide_eq_true h32, List.drop_zero, List.all_cons]
            cases hd : isDigit (c : Int) with
            | true => rw [digit_not_letter _ hd]; simp
            | false => unfold wordRune; rw [hd]; simp
          rw [e]
          cases isDigit (c : Int) with
          | true => exact Ev.now _
          | false => exact hm
      · refine Ev.step (f := fun _ => some false) (fun k => ?_) ?_
        · rw [if_neg (by omega), if_pos (by omega)]
          rfl
        · have e : mayR (c :: rs) = false := by
            show (decide (rs.length < 32) && isLetter (c : Int) && rs.all wordRune) = _
            rw [decide_eq_false h32]; rfl
          rw [e]
          exact Ev.now _
  · rw [may_bad h]
    refine Ev.bind (all_f_bad hs h) ?_
    refine Ev.step (f := fun _ => some false) (fun k => ?_) (Ev.now _)
    rfl

theorem law_may (w : World) (s : ByteArray) (hs : s.size ≤ 1000000) : Calls Try.prog 23 #[.string s] w fun e w' => e = .returned (.bool (nameMay s)) ∧ Below w.heap.size w w' := by
  obtain ⟨k, hk⟩ := (ref_may hs).rounds
  exact wardenref09_May.calls k s _ w hk
end Go.Proofs.Ytkflofjcjolehaa.My

/-! Types: Sound. -/
namespace Go.Proofs.Ytkflofjcjolehaa
open Go.RowKit Go.Proofs.YtkflofjcjolehaaW.PrintWords

theorem types_sound_walk (w : World) (A : Option Addr) (n c : Nat) (l : List Tp) (hl : l.length = n) (hc : n ≤ c) (hC : kT.C w A n l) (hrd : rdTps l) :
    Calls Try.prog 9 #[.slice A n c] w fun e w' => e = .returned (.bool true) ∧ Below w.heap.size w w' :=
  sound_walk My.law_may w A n c l hl hc hC hrd
end Go.Proofs.Ytkflofjcjolehaa
