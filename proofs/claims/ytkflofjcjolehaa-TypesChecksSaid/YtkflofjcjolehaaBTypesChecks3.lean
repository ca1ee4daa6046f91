/- Types: the document's May, as a contract. -/
import Derived.Test.YtkflofjcjolehaaBTypesChecks1
import Derived.Test.YtkflofjcjolehaaBTypesChecks2
import Derived.Test.YtkflofjcjolehaaBig10
import Derived.Test.YtkflofjcjolehaaBig13
import Derived.Test.YtkflofjcjolehaaBTypesChecks0
import Derived.Test.YtkflofjcjolehaaBig17
import Derived.Test.YtkflofjcjolehaaBig15
namespace Go.Proofs.Ytkflofjcjolehaa.My
open Go.RowKit Go.Proofs.Ytkflofjcjolehaa.HMay Go.Proofs.YtkflofjcjolehaaW.PrintWords Go.Proofs.YtkflofjcjolehaaW.PrintLast
set_option linter.unusedSimpArgs false
set_option linter.unusedVariables false

theorem bt_nat (s : ByteArray) (i : Nat) (h : i < s.size) : bt s i = byteN s 0 i := by
  unfold bt
  rw [dif_pos (by simpa using h)]
  have g := list_byteN s 0 i (by omega)
  rw [List.drop_zero, Array.getElem?_toList, Array.getElem?_eq_getElem (by simpa using h)] at g
  have g := Option.some.inj g
  show ((s.data[i]'(by simpa using h)).toNat : Int) = _
  rw [g, ofNat_toNat (byteN_lt s 0 i)]

theorem wrap64_small (x : Int) (h0 : -1000000000 ≤ x) (h1 : x ≤ 1000000000) : wrap64 x = x := by
  unfold wrap64
  omega

/-- A byte of a rune behind its first one. -/
def tailN (s : ByteArray) (i : Nat) : Int := if i < s.size ∧ byteN s 0 i / 64 = 2 then ((byteN s 0 i % 64 : Nat) : Int) else -1

theorem tail_eq (s : ByteArray) (i : Nat) : wardenref09_tail.f s (i : Int) = some (tailN s i) := by
  unfold wardenref09_tail.f tailN
  by_cases h : i < s.size
  · have hb := byteN_lt s 0 i
    rw [if_neg (by omega), if_pos (by omega), if_pos (by omega), bt_nat s i h]
    rcases Nat.lt_or_ge (byteN s 0 i) 128 with h1 | h1
    · rw [if_pos (by omega), if_neg (by omega)]
    · rw [if_neg (by omega)]
      rcases Nat.lt_or_ge 191 (byteN s 0 i) with h2 | h2
      · rw [if_pos (by omega), if_neg (by omega)]
      · rw [if_neg (by omega), if_pos (by omega), wrap64_small (byteN s 0 i) (by omega) (by omega), wrap64_small _ (by omega) (by omega)]
        congr 1
        omega
  · rw [if_pos (by omega), if_neg (by omega)]

/-- What the reference reads of a text that is not empty. -/
def readN (s : ByteArray) : Int × Int := if badAt s 0 then (-1, 0) else (((Utf8.decode s 0).1 : Int), ((Utf8.decode s 0).2 : Int))

theorem tailN_range (s : ByteArray) (i : Nat) : -1 ≤ tailN s i ∧ tailN s i ≤ 63 := by
  unfold tailN
  split <;> omega

theorem read_step (s : ByteArray) (k : Nat) (n r least : Int) (j : Nat) (hj : (j : Int) < n) (hr0 : 0 ≤ r) (hr1 : r ≤ 1000000) (hj2 : j < 10) :
    wardenref09_Read.l0 (k + 1) s n r least j = if tailN s j < 0 then some (-1, 0) else wardenref09_Read.l0 k s n (64 * r + tailN s j) least ((j + 1 : Nat) : Int) := by
  have ht := tailN_range s j
  simp only [wardenref09_Read.l0]
  rw [if_pos hj, tail_eq]
  simp only [Option.bind_some]
  rw [wrap64_small (64 * r) (by omega) (by omega), wrap64_small _ (by omega) (by omega), wrap64_small ((j : Int) + 1) (by omega) (by omega)]
  rfl

theorem read_end (s : ByteArray) (k : Nat) (n r least : Int) : wardenref09_Read.l0 (k + 1) s n r least n = if r < least ∨ r > 1114111 ∨ (r ≥ 55296 ∧ r ≤ 57343) then some (-1, 0) else some (r, n) := by
  simp only [wardenref09_Read.l0]
  rw [if_neg (by omega)]
  by_cases h1 : r < least
  · rw [if_pos h1, if_pos (.inl h1)]
  · rw [if_neg h1]
    by_cases h2 : r > 1114111
    · rw [if_pos h2, if_pos (.inr (.inl h2))]
    · rw [if_neg h2]
      by_cases h3 : r ≥ 55296
      · rw [if_pos h3]
        by_cases h4 : r ≤ 57343
        · rw [if_pos h4, if_pos (.inr (.inr ⟨h3, h4⟩))]
        · rw [if_neg h4, if_neg (by omega)]
      · rw [if_neg h3, if_neg (by omega)]

/-- The model's decoding, as a chain of tests. -/
theorem decode_tests (s : ByteArray) (h : 0 < s.size) : readN s =
    if byteN s 0 0 < 128 then ((byteN s 0 0 : Int), 1)
    else if byteN s 0 0 / 32 = 6 then (if tailN s 1 < 0 then (-1, 0) else if 64 * ((byteN s 0 0 : Int) - 192) + tailN s 1 < 128 then (-1, 0) else (64 * ((byteN s 0 0 : Int) - 192) + tailN s 1, 2))
    else if byteN s 0 0 / 16 = 14 then (if tailN s 1 < 0 then (-1, 0) else if tailN s 2 < 0 then (-1, 0) else
      if 64 * (64 * ((byteN s 0 0 : Int) - 224) + tailN s 1) + tailN s 2 < 2048 ∨ (64 * (64 * ((byteN s 0 0 : Int) - 224) + tailN s 1) + tailN s 2 ≥ 55296 ∧ 64 * (64 * ((byteN s 0 0 : Int) - 224) + tailN s 1) + tailN s 2 ≤ 57343) then (-1, 0)
      else (64 * (64 * ((byteN s 0 0 : Int) - 224) + tailN s 1) + tailN s 2, 3))
    else if byteN s 0 0 / 8 = 30 then (if tailN s 1 < 0 then (-1, 0) else if tailN s 2 < 0 then (-1, 0) else if tailN s 3 < 0 then (-1, 0) else
      if 64 * (64 * (64 * ((byteN s 0 0 : Int) - 240) + tailN s 1) + tailN s 2) + tailN s 3 < 65536 ∨ 64 * (64 * (64 * ((byteN s 0 0 : Int) - 240) + tailN s 1) + tailN s 2) + tailN s 3 > 1114111 then (-1, 0)
      else (64 * (64 * (64 * ((byteN s 0 0 : Int) - 240) + tailN s 1) + tailN s 2) + tailN s 3, 4))
    else (-1, 0) := by
  have b0 := byteN_lt s 0 0
  have b1 := byteN_lt s 0 1
  have b2 := byteN_lt s 0 2
  have b3 := byteN_lt s 0 3
  have hd := dec_of s 0
  unfold readN badAt
  by_cases hbad : (Utf8.decode s 0).1 = 65533 ∧ (Utf8.decode s 0).2 = 1
  · have e : ((Utf8.decode s 0).1 == 65533 && (Utf8.decode s 0).2 == 1) = true := by simp [hbad.1, hbad.2]
    rw [e, if_pos rfl]
    -- no rune: none of the ways is open
    have key : ∀ c m, validN c = true → s.data.toList.drop 0 = encL c ++ m → False := fun c m hv hm => by
      have := not_bad s 0 c m hv hm
      unfold badAt at this
      rw [e] at this
      cases this
    have lb : ∀ k, k < s.size → s.data.toList.drop k = UInt8.ofNat (byteN s 0 k) :: s.data.toList.drop (k + 1) := fun k hk => by
      have g := list_byteN s 0 k (by omega)
      rw [List.drop_zero] at g
      exact drop_cons4 (by rw [List.getElem?_drop]; exact g)
    have n0 := lb 0 h
    split
    · rename_i g
      exact (key (byteN s 0 0) (s.data.toList.drop 1) (by unfold validN; simp; omega) (by rw [n0]; unfold encL; rw [if_pos g]; rfl)).elim
    · split
      · rename_i g
        split
        · rfl
        · split
          · rfl
          · rename_i t1 t2
            exfalso
            unfold tailN at t1 t2
            split at t1
            · rename_i q1
              rw [if_pos q1] at t2
              obtain ⟨c, hc⟩ : ∃ c, byteN s 0 0 % 32 * 64 + byteN s 0 1 % 64 = c := ⟨_, rfl⟩
              refine key c (s.data.toList.drop 2) (by unfold validN; simp; omega) ?_
              rw [n0, lb 1 q1.1]
              unfold encL
              rw [if_neg (by omega), if_pos (by omega), show 192 + c / 64 = byteN s 0 0 by omega, show 128 + c % 64 = byteN s 0 1 by omega]
              rfl
            · omega
      · split
        · rename_i g
          split
          · rfl
          · split
            · rfl
            · split
              · rfl
              · rename_i t1 t2 t3
                exfalso
                unfold tailN at t1 t2 t3
                split at t1
                · rename_i q1
                  rw [if_pos q1] at t3
                  split at t2
                  · rename_i q2
                    rw [if_pos q2] at t3
                    obtain ⟨c, hc⟩ : ∃ c, byteN s 0 0 % 16 * 4096 + byteN s 0 1 % 64 * 64 + byteN s 0 2 % 64 = c := ⟨_, rfl⟩
                    refine key c (s.data.toList.drop 3) (by unfold validN; simp; omega) ?_
                    rw [n0, lb 1 q1.1, lb 2 q2.1]
                    unfold encL
                    rw [if_neg (by omega), if_neg (by omega), if_pos (by omega), show 224 + c / 4096 = byteN s 0 0 by omega, show 128 + c / 64 % 64 = byteN s 0 1 by omega, show 128 + c % 64 = byteN s 0 2 by omega]
                    rfl
                  · omega
                · omega
        · split
          · rename_i g
            split
            · rfl
            · split
              · rfl
              · split
                · rfl
                · split
                  · rfl
                  · rename_i t1 t2 t3 t4
                    exfalso
                    unfold tailN at t1 t2 t3 t4
                    split at t1
                    · rename_i q1
                      rw [if_pos q1] at t4
                      split at t2
                      · rename_i q2
                        rw [if_pos q2] at t4
                        split at t3
                        · rename_i q3
                          rw [if_pos q3] at t4
                          obtain ⟨c, hc⟩ : ∃ c, byteN s 0 0 % 8 * 262144 + byteN s 0 1 % 64 * 4096 + byteN s 0 2 % 64 * 64 + byteN s 0 3 % 64 = c := ⟨_, rfl⟩
                          refine key c (s.data.toList.drop 4) (by unfold validN; simp; omega) ?_
                          rw [n0, lb 1 q1.1, lb 2 q2.1, lb 3 q3.1]
                          unfold encL
                          rw [if_neg (by omega), if_neg (by omega), if_neg (by omega), show 240 + c / 262144 = byteN s 0 0 by omega, show 128 + c / 4096 % 64 = byteN s 0 1 by omega, show 128 + c / 64 % 64 = byteN s 0 2 by omega, show 128 + c % 64 = byteN s 0 3 by omega]
                          rfl
                        · omega
                      · omega
                    · omega
          · rfl
  · have e : ((Utf8.decode s 0).1 == 65533 && (Utf8.decode s 0).2 == 1) = false := by
      cases hq : ((Utf8.decode s 0).1 == 65533 && (Utf8.decode s 0).2 == 1)
      · rfl
      · simp at hq
        exact (hbad hq).elim
    rw [e]
    simp only [Bool.false_eq_true, if_false]
    clear e
    generalize (Utf8.decode s 0).1 = c at hd hbad
    generalize (Utf8.decode s 0).2 = v at hd hbad
    cases hd with
    | one g => rw [if_pos g]; rfl
    | bad => exact (hbad ⟨rfl, rfl⟩).elim
    | two g0 l1 g1 hm =>
      have t1 : tailN s 1 = ((byteN s 0 1 % 64 : Nat) : Int) := by unfold tailN; rw [if_pos ⟨by omega, g1⟩]
      rw [if_neg (by omega), if_pos g0, t1, if_neg (by omega), if_neg (by omega)]
      congr 1
      omega
    | three g0 l1 g1 l2 g2 hm hv =>
      have t1 : tailN s 1 = ((byteN s 0 1 % 64 : Nat) : Int) := by unfold tailN; rw [if_pos ⟨by omega, g1⟩]
      have t2 : tailN s 2 = ((byteN s 0 2 % 64 : Nat) : Int) := by unfold tailN; rw [if_pos ⟨by omega, g2⟩]
      simp [Utf8.valid] at hv
      rw [if_neg (by omega), if_neg (by omega), if_pos g0, t1, t2, if_neg (by omega), if_neg (by omega), if_neg (by omega)]
      congr 1
      omega
    | four g0 l1 g1 l2 g2 l3 g3 hm hv =>
      have t1 : tailN s 1 = ((byteN s 0 1 % 64 : Nat) : Int) := by unfold tailN; rw [if_pos ⟨by omega, g1⟩]
      have t2 : tailN s 2 = ((byteN s 0 2 % 64 : Nat) : Int) := by unfold tailN; rw [if_pos ⟨by omega, g2⟩]
      have t3 : tailN s 3 = ((byteN s 0 3 % 64 : Nat) : Int) := by unfold tailN; rw [if_pos ⟨by omega, g3⟩]
      simp [Utf8.valid] at hv
      rw [if_neg (by omega), if_neg (by omega), if_neg (by omega), if_pos g0, t1, t2, t3, if_neg (by omega), if_neg (by omega), if_neg (by omega), if_neg (by omega)]
      congr 1
      omega

set_option maxRecDepth 100000 in
theorem read_eq (s : ByteArray) (h : 0 < s.size) : Ev (fun k => wardenref09_Read.f k s) (readN s) := by
  refine ⟨12, fun k hk => ?_⟩
  obtain ⟨k, rfl⟩ : ∃ m, k = m + 10 := ⟨k - 10, by omega⟩
  have b0 := byteN_lt s 0 0
  have hne : ¬ s.toList = ([] : List UInt8) := by
    rw [ByteArray.toList_eq]
    intro he
    have := congrArg List.length he
    rw [Array.length_toList, List.length_nil] at this
    have : s.size = 0 := this
    omega
  have r1 := tailN_range s 1
  have r2 := tailN_range s 2
  have r3 := tailN_range s 3
  rw [decode_tests s h]
  show wardenref09_Read.f (k + 10) s = _
  unfold wardenref09_Read.f
  have hb := bt_nat s 0 h
  rw [show ((0 : Nat) : Int) = 0 from rfl] at hb
  rw [if_neg hne, if_pos (by omega), hb, wrap64_small (byteN s 0 0) (by omega) (by omega)]
  by_cases c0 : byteN s 0 0 < 128
  · rw [if_pos (by omega), if_pos c0]
  · rw [if_neg (by omega), if_neg c0]
    by_cases c1 : byteN s 0 0 / 32 = 6
    · rw [if_pos (by omega), if_pos c1, decide_eq_true (show (byteN s 0 0 : Int) < 224 by omega)]
      simp only [wardenref09_Read.j0, wardenref09_Read.j2, if_true]
      rw [wrap64_small _ (by omega) (by omega)]
      have s1 := read_step s (k + 7) 2 ((byteN s 0 0 : Int) - 192) 128 1 (by omega) (by omega) (by omega) (by omega)
      rw [show ((1 : Nat) : Int) = 1 from rfl] at s1
      rw [s1]
      by_cases t1 : tailN s 1 < 0
      · rw [if_pos t1, if_pos t1]
      · rw [if_neg t1, if_neg t1]
        have s2 := read_end s (k + 6) 2 (64 * ((byteN s 0 0 : Int) - 192) + tailN s 1) 128
        rw [show (((1 + 1 : Nat)) : Int) = 2 from rfl, s2]
        by_cases q : 64 * ((byteN s 0 0 : Int) - 192) + tailN s 1 < 128
        · rw [if_pos (.inl q), if_pos q]
        · rw [if_neg (by omega), if_neg q]
    · rw [if_neg c1]
      by_cases c2 : byteN s 0 0 / 16 = 14
      · rw [if_pos (by omega), if_pos c2, decide_eq_false (show ¬ (byteN s 0 0 : Int) < 224 by omega)]
        simp only [wardenref09_Read.j0, Bool.false_eq_true, if_false]
        rw [if_pos (by omega), decide_eq_true (show (byteN s 0 0 : Int) < 240 by omega)]
        simp only [wardenref09_Read.j1, wardenref09_Read.j2, if_true]
        rw [wrap64_small _ (by omega) (by omega)]
        have s1 := read_step s (k + 6) 3 ((byteN s 0 0 : Int) - 224) 2048 1 (by omega) (by omega) (by omega) (by omega)
        rw [show ((1 : Nat) : Int) = 1 from rfl] at s1
        rw [s1]
        by_cases t1 : tailN s 1 < 0
        · rw [if_pos t1, if_pos t1]
        · rw [if_neg t1, if_neg t1]
          have s2 := read_step s (k + 5) 3 (64 * ((byteN s 0 0 : Int) - 224) + tailN s 1) 2048 2 (by omega) (by omega) (by omega) (by omega)
          rw [s2]
          by_cases t2 : tailN s 2 < 0
          · rw [if_pos t2, if_pos t2]
          · rw [if_neg t2, if_neg t2]
            have s3 := read_end s (k + 4) 3 (64 * (64 * ((byteN s 0 0 : Int) - 224) + tailN s 1) + tailN s 2) 2048
            rw [show (((2 + 1 : Nat)) : Int) = 3 from rfl, s3]
            by_cases q : 64 * (64 * ((byteN s 0 0 : Int) - 224) + tailN s 1) + tailN s 2 < 2048 ∨ (64 * (64 * ((byteN s 0 0 : Int) - 224) + tailN s 1) + tailN s 2 ≥ 55296 ∧ 64 * (64 * ((byteN s 0 0 : Int) - 224) + tailN s 1) + tailN s 2 ≤ 57343)
            · rw [if_pos (by omega), if_pos q]
            · rw [if_neg (by omega), if_neg q]
      · rw [if_neg c2]
        by_cases c3 : byteN s 0 0 / 8 = 30
        · rw [if_pos (by omega), if_pos c3, decide_eq_false (show ¬ (byteN s 0 0 : Int) < 224 by omega)]
          simp only [wardenref09_Read.j0, Bool.false_eq_true, if_false]
          rw [if_pos (by omega), decide_eq_false (show ¬ (byteN s 0 0 : Int) < 240 by omega)]
          simp only [wardenref09_Read.j1, Bool.false_eq_true, if_false]
          rw [if_pos (by omega), if_pos (by omega)]
          simp only [wardenref09_Read.j2]
          rw [wrap64_small _ (by omega) (by omega)]
          have s1 := read_step s (k + 6) 4 ((byteN s 0 0 : Int) - 240) 65536 1 (by omega) (by omega) (by omega) (by omega)
          rw [show ((1 : Nat) : Int) = 1 from rfl] at s1
          rw [s1]
          by_cases t1 : tailN s 1 < 0
          · rw [if_pos t1, if_pos t1]
          · rw [if_neg t1, if_neg t1]
            have s2 := read_step s (k + 5) 4 (64 * ((byteN s 0 0 : Int) - 240) + tailN s 1) 65536 2 (by omega) (by omega) (by omega) (by omega)
            rw [s2]
            by_cases t2 : tailN s 2 < 0
            · rw [if_pos t2, if_pos t2]
            · rw [if_neg t2, if_neg t2]
              have s3 := read_step s (k + 4) 4 (64 * (64 * ((byteN s 0 0 : Int) - 240) + tailN s 1) + tailN s 2) 65536 3 (by omega) (by omega) (by omega) (by omega)
              rw [s3]
              by_cases t3 : tailN s 3 < 0
              · rw [if_pos t3, if_pos t3]
              · rw [if_neg t3, if_neg t3]
                have s4 := read_end s (k + 3) 4 (64 * (64 * (64 * ((byteN s 0 0 : Int) - 240) + tailN s 1) + tailN s 2) + tailN s 3) 65536
                rw [show (((3 + 1 : Nat)) : Int) = 4 from rfl, s4]
                by_cases q : 64 * (64 * (64 * ((byteN s 0 0 : Int) - 240) + tailN s 1) + tailN s 2) + tailN s 3 < 65536 ∨ 64 * (64 * (64 * ((byteN s 0 0 : Int) - 240) + tailN s 1) + tailN s 2) + tailN s 3 > 1114111
                · rw [if_pos (by omega), if_pos q]
                · rw [if_neg (by omega), if_neg q]
        · rw [if_neg c3]
          by_cases c4 : (byteN s 0 0 : Int) ≥ 192
          · rw [if_pos c4, decide_eq_false (show ¬ (byteN s 0 0 : Int) < 224 by omega)]
            simp only [wardenref09_Read.j0, Bool.false_eq_true, if_false]
            rw [if_pos (by omega), decide_eq_false (show ¬ (byteN s 0 0 : Int) < 240 by omega)]
            simp only [wardenref09_Read.j1, Bool.false_eq_true, if_false]
            rw [if_pos (by omega), if_neg (by omega)]
          · rw [if_neg c4]
            simp only [wardenref09_Read.j0, Bool.false_eq_true, if_false]
            rw [if_neg (by omega)]
            simp only [wardenref09_Read.j1, Bool.false_eq_true, if_false]
            rw [if_neg (by omega)]

/-- A text's rest reads as the text does from there on. -/
theorem decode_rest (s : ByteArray) (i : Nat) (h : i ≤ s.size) : Utf8.decode (s.extract i s.size) 0 = Utf8.decode s i := by
  have hz : (s.extract i s.size).size = s.size - i := by rw [ByteArray.size_extract]; omega
  have hg : ∀ k, (s.extract i s.size).get! (0 + k) = s.get! (i + k) := fun k => by
    by_cases hk : i + k < s.size
    · have g1 := get_extract s i k hk
      have g2 : (s.extract i s.size).data.toList[k]? = some ((s.extract i s.size).get! (0 + k)) := by
        have hk2 : 0 + k < (s.extract i s.size).data.size := by
          show 0 + k < (s.extract i s.size).size
          omega
        show _ = some ((s.extract i s.size).data[0 + k]!)
        rw [getElem!_pos (s.extract i s.size).data (0 + k) hk2, Array.getElem?_toList]
        rw [Array.getElem?_eq_getElem (by omega)]
        congr 1
        congr 1
        omega
      rw [g1] at g2
      exact (Option.some.inj g2).symm
    · show (s.extract i s.size).data[0 + k]! = s.data[i + k]!
      rw [getElem!_neg (s.extract i s.size).data (0 + k) (by show ¬ 0 + k < (s.extract i s.size).size; omega), getElem!_neg s.data (i + k) hk]
  have hs : ∀ k, (0 + k < (s.extract i s.size).size) = (i + k < s.size) := fun k => by
    apply propext
    rw [hz]
    omega
  simp only [Utf8.decode, hg, hs]

theorem readN_rest (s : ByteArray) (i : Nat) (h : i ≤ s.size) : readN (s.extract i s.size) = if badAt s i then (-1, 0) else (((Utf8.decode s i).1 : Int), ((Utf8.decode s i).2 : Int)) := by
  unfold readN badAt
  rw [decode_rest s i h]

theorem read_at (s : ByteArray) (i : Nat) (h : i < s.size) : Ev (fun k => wardenref09_Read.f k (s.extract ((i : Int)).toNat s.size)) (if badAt s i then (-1, 0) else (((Utf8.decode s i).1 : Int), ((Utf8.decode s i).2 : Int))) := by
  rw [← readN_rest s i (by omega)]
  exact read_eq _ (by rw [ByteArray.size_extract]; show 0 < min s.size s.size - ((i : Int)).toNat; omega)

/-- A row of runes, as the reference keeps it. -/
def ints (rs : List Nat) : List Int := rs.map Int.ofNat

theorem all_text {s : ByteArray} (hs : s.size ≤ 1000000) : ∀ {rs : List Nat} {i : Nat} {acc : List Int}, Text s i rs → acc.length ≤ i →
    Ev (fun k => wardenref09_all.l0 k s acc (i : Int)) (acc ++ ints rs, true) := by
  intro rs
  induction rs with
  | nil =>
    intro i acc h hl
    have := h.nil
    refine ⟨1, fun k hk => ?_⟩
    obtain ⟨k, rfl⟩ : ∃ m, k = m + 1 := ⟨k - 1, by omega⟩
    simp only [wardenref09_all.l0]
    rw [if_neg (by omega)]
    simp [ints]
  | cons c rs ih =>
    intro i acc h hl
    obtain ⟨hi, hb, hd, ht, hv⟩ := h.cons
    have hp := encL_pos c
    have hle := ht.2.2
    refine Ev.step (f := fun k => (wardenref09_Read.f k (s.extract ((i : Int)).toNat s.size)).bind fun bt => if bt.1 < 0 then some (([] : List Int), false) else if acc.length < 17592186044416 then wardenref09_all.l0 k s (acc ++ [bt.1]) (wrap64 ((i : Int) + bt.2)) else none) (fun k => by
      simp only [wardenref09_all.l0]
      rw [if_pos (by omega), if_pos (by omega), if_pos (by omega)]) ?_
    refine Ev.bind (read_at s i hi) ?_
    rw [hb, hd]
    simp only [Bool.false_eq_true, if_false]
    refine Ev.congr (f := fun k => wardenref09_all.l0 k s (acc ++ [(c : Int)]) ((i + (encL c).length : Nat) : Int)) (fun k => ?_) ?_
    · rw [if_neg (by omega), if_pos (by omega), wrap64_small _ (by omega) (by omega), Int.natCast_add]
    · have := ih (acc := acc ++ [(c : Int)]) ht (by simp; omega)
      simpa [ints] using this

theorem all_bad {s : ByteArray} (hs : s.size ≤ 1000000) {i : Nat} (h : BadFrom s i) : ∀ {acc : List Int}, acc.length ≤ i →
    Ev (fun k => wardenref09_all.l0 k s acc (i : Int)) (([] : List Int), false) := by
  induction h with
  | here i hi hb =>
    intro acc hl
    refine Ev.step (f := fun k => (wardenref09_Read.f k (s.extract ((i : Int)).toNat s.size)).bind fun bt => if bt.1 < 0 then some (([] : List Int), false) else if acc.length < 17592186044416 then wardenref09_all.l0 k s (acc ++ [bt.1]) (wrap64 ((i : Int) + bt.2)) else none) (fun k => by
      simp only [wardenref09_all.l0]
      rw [if_pos (by omega), if_pos (by omega), if_pos (by omega)]) ?_
    refine Ev.bind (read_at s i hi) ?_
    rw [hb]
    exact Ev.now _
  | step i hi hb hr ih =>
    intro acc hl
    have hwd := width_pos s i hi
    have hlt := hr.lt
    refine Ev.step (f := fun k => (wardenref09_Read.f k (s.extract ((i : Int)).toNat s.size)).bind fun bt => if bt.1 < 0 then some (([] : List Int), false) else if acc.length < 17592186044416 then wardenref09_all.l0 k s (acc ++ [bt.1]) (wrap64 ((i : Int) + bt.2)) else none) (fun k => by
      simp only [wardenref09_all.l0]
      rw [if_pos (by omega), if_pos (by omega), if_pos (by omega)]) ?_
    refine Ev.bind (read_at s i hi) ?_
    rw [hb]
    simp only [Bool.false_eq_true, if_false]
    refine Ev.congr (f := fun k => wardenref09_all.l0 k s (acc ++ [((Utf8.decode s i).1 : Int)]) ((i + (Utf8.decode s i).2 : Nat) : Int)) (fun k => ?_) ?_
    · rw [if_neg (by omega), if_pos (by omega), wrap64_small _ (by omega) (by omega), Int.natCast_add]
    · exact ih (by simp; omega)

theorem all_f_text {s : ByteArray} (hs : s.size ≤ 1000000) {rs : List Nat} (h : Text s 0 rs) : Ev (fun k => wardenref09_all.f k s) (ints rs, true) := all_text hs h (by simp)
theorem all_f_bad {s : ByteArray} (hs : s.size ≤ 1000000) (h : BadFrom s 0) : Ev (fun k => wardenref09_all.f k s) (([] : List Int), false) := all_bad hs h (by simp)

theorem ref_letter (r : Int) : wardenref09_Letter.f r = some (isLetter r) := by
  have e : isLetter r = decide ((97 ≤ r ∧ r ≤ 122) ∨ (65 ≤ r ∧ r ≤ 90) ∨ r = 95 ∨ (192 ≤ r ∧ r ≠ 215 ∧ r ≠ 247 ∧ ((0 ≤ r ∧ r < 55296) ∨ (57343 < r ∧ r ≤ 1114111)))) := by
    unfold isLetter letterTest Lib.validRune
    rw [Bool.eq_iff_iff, decide_eq_true_iff]
    simp [or_assoc, and_assoc]
  rw [e]
  unfold wardenref09_Letter.f
  repeat' split
  all_goals
    congr 1
    first
      | (symm; rw [decide_eq_true_iff]; omega)
      | (symm; rw [decide_eq_false_iff_not]; omega)
      | (rw [decide_eq_decide]; omega)

theorem ref_digit (r : Int) : wardenref09_digit.f r = some (isDigit r) := by
  unfold wardenref09_digit.f isDigit
  by_cases h : 48 ≤ r
  · rw [if_pos h, decide_eq_true h]; rfl
  · rw [if_neg h, decide_eq_false h]; rfl

theorem rd_ints (rs : List Nat) (i : Nat) (c : Nat) (h : rs[i]? = some c) : rd (ints rs) (i : Int) = c := by
  unfold rd ints
  rw [List.getD_eq_getElem?_getD, List.getElem?_map]
  show ((rs[i]?).map Int.ofNat).getD 0 = _
  rw [h]
  rfl

theorem may_rest (rs : List Nat) (hl : rs.length ≤ 100) : ∀ n i, rs.length - i = n → i ≤ rs.length → Ev (fun k => wardenref09_May.l0 k (ints rs) (i : Int)) ((rs.drop i).all wordRune) := by
  have hlen : (ints rs).length = rs.length := by simp [ints]
  intro n
  induction n with
  | zero =>
    intro i hn hi
    refine ⟨1, fun k hk => ?_⟩
    obtain ⟨k, rfl⟩ : ∃ m, k = m + 1 := ⟨k - 1, by omega⟩
    simp only [wardenref09_May.l0]
    rw [hlen, if_neg (by omega), List.drop_of_length_le (by omega)]
    rfl
  | succ n ih =>
    intro i hn hi
    have hlt : i < rs.length := by omega
    obtain ⟨c, hc⟩ : ∃ c, rs[i]? = some c := ⟨_, List.getElem?_eq_getElem hlt⟩
    obtain ⟨K, hK⟩ := ih (i + 1) (by omega) (by omega)
    refine ⟨K + 1, fun k hk => ?_⟩
    obtain ⟨k, rfl⟩ : ∃ m, k = m + 1 := ⟨k - 1, by omega⟩
    have hK : wardenref09_May.l0 k (ints rs) ((i + 1 : Nat) : Int) = some ((rs.drop (i + 1)).all wordRune) := hK k (by omega)
    simp only [wardenref09_May.l0]
    rw [hlen, if_pos (by omega), if_pos (by omega), rd_ints rs i c hc, ref_letter, ref_digit]
    simp only [Option.bind_some]
    rw [wrap64_small _ (by omega) (by omega), show (i : Int) + 1 = ((i + 1 : Nat) : Int) by omega, hK, List.drop_eq_getElem_cons hlt, (List.getElem?_eq_some_iff.1 hc).2, List.all_cons]
    unfold wordRune
    cases isLetter (c : Int) <;> cases isDigit (c : Int) <;> simp

theorem digit_not_letter (c : Int) (h : isDigit c = true) : isLetter c = false := by
  unfold isDigit at h
  simp at h
  unfold isLetter letterTest
  simp
  omega

theorem ref_may {s : ByteArray} (hs : s.size ≤ 1000000) : Ev (fun k => wardenref09_May.f k s) (nameMay s) := by
  rcases text_or s s.size 0 rfl (by omega) with ⟨rs, h⟩ | h
  · rw [may_text h]
    refine Ev.bind (all_f_text hs h) ?_
    have hlen : (ints rs).length = rs.length := by simp [ints]
    simp only [if_true]
    rw [hlen]
    cases rs with
    | nil =>
      refine Ev.step (f := fun _ => some false) (fun k => ?_) (Ev.now _)
      rw [if_pos (by decide)]
      rfl
    | cons c rs =>
      rw [List.length_cons] at hlen ⊢
      by_cases h32 : rs.length < 32
      · have hr := rd_ints (c :: rs) 0 c rfl
        rw [show ((0 : Nat) : Int) = 0 from rfl] at hr
        refine Ev.congr (f := fun k => wardenref09_May.j0 k (ints (c :: rs)) (isDigit c)) (fun k => ?_) ?_
        · rw [if_neg (by omega), if_neg (by omega), if_pos (by omega), hr, ref_digit]
          rfl
        · refine Ev.step (f := fun k => if isDigit (c : Int) = true then some false else wardenref09_May.l0 k (ints (c :: rs)) 0) (fun k => by simp only [wardenref09_May.j0]) ?_
          have hm := may_rest (c :: rs) (by simp; omega) _ 0 rfl (by omega)
          have e : mayR (c :: rs) = (if isDigit (c : Int) = true then false else ((c :: rs).drop 0).all wordRune) := by
            show (decide (rs.length < 32) && isLetter (c : Int) && rs.all wordRune) = _
            rw [decide_eq_true h32, List.drop_zero, List.all_cons]
            cases hd : isDigit (c : Int) with
            | true => rw [digit_not_letter _ hd]; simp
            | false => unfold wordRune; rw [hd]; simp
          rw [e]
          cases isDigit (c : Int) with
          | true => exact Ev.now _
          | false => exact hm
      · refine Ev.step (f := fun _ => some false) (fun k => ?_) ?_
        · rw [if_neg (by omega), if_pos (by omega)]
          rfl
        · have e : mayR (c :: rs) = false := by
            show (decide (rs.length < 32) && isLetter (c : Int) && rs.all wordRune) = _
            rw [decide_eq_false h32]; rfl
          rw [e]
          exact Ev.now _
  · rw [may_bad h]
    refine Ev.bind (all_f_bad hs h) ?_
    refine Ev.step (f := fun _ => some false) (fun k => ?_) (Ev.now _)
    rfl

theorem law_may (w : World) (s : ByteArray) (hs : s.size ≤ 1000000) : Calls Try.prog 23 #[.string s] w fun e w' => e = .returned (.bool (nameMay s)) ∧ Below w.heap.size w w' := by
  obtain ⟨k, hk⟩ := (ref_may hs).rounds
  exact wardenref09_May.calls k s _ w hk
end Go.Proofs.Ytkflofjcjolehaa.My

/-! Types: the document's one. -/
namespace Go.Proofs.Ytkflofjcjolehaa
open Go.RowKit Go.Proofs.YtkflofjcjolehaaW.PrintWords
set_option maxHeartbeats 8000000
set_option maxRecDepth 100000
set_option linter.unusedSimpArgs false
set_option linter.unusedVariables false

theorem rf_one (w : World) (A : Option Addr) (c : Nat) (l : List Tp) (n : Nat) (hl : l.length = n) (hC : kT.C w A n l) (hc : n ≤ c) (i : Nat) (hi : i < n) (hsm : Small l) :
    Calls Try.prog 44 #[.slice A n c, .int .i64 i] w fun e w' => e = .returned (.tuple #[.int .i64 (oneF l i).1, .int .i64 (oneF l i).2]) ∧ Below w.heap.size w w' := by
  obtain ⟨t, ht⟩ : ∃ x, l[i]? = some x := ⟨_, List.getElem?_eq_getElem (by omega)⟩
  obtain ⟨cb, off, A2, c2, rfl, e0, e1, e2, hl2, hF⟩ := tp_at hC (Below.refl _ w) ht
  have hi1 : (i : Int) < n := by omega
  have hi0 : (0 : Int) ≤ i := by omega
  have hg : l.getD i zT = t := by rw [List.getD_eq_getElem?_getD, ht]; rfl
  have hmem := List.mem_of_getElem? ht
  have k1 := hsm.nm t hmem
  have k2 := hsm.fs t hmem
  have k3 := hsm.fn t hmem
  unfold oneF
  rw [hg]
  have HOF := hide (fun W (hW : Below w.heap.size w W) => rf_of W (some ⟨cb, off, none⟩) c l n hl (Kd.C_below hC hW) t.nm)
  obtain ⟨o, ho⟩ : ∃ o, max (ofIdx l t.nm) 0 = o := ⟨_, rfl⟩
  obtain ⟨o2, ho2⟩ : ∃ o, decide (ofIdx l t.nm ≥ 0) = o := ⟨_, rfl⟩
  rw [ho, ho2] at HOF
  rw [ho]
  obtain ⟨nm, sz, fs⟩ := t
  simp only [] at e0 e1 e2 hl2 hF k1 k2 k3 HOF ⊢
  have k3' := hide k3
  have HM := hide (fun W => My.law_may W nm (by omega))
  obtain ⟨N, hN⟩ : ∃ N, fs.length = N := ⟨_, rfl⟩
  rw [hN] at e2 hl2 hF k2
  have HN := hide hN
  obtain ⟨m, hm⟩ : ∃ m, nameMay nm = m := ⟨_, rfl⟩
  rw [hm] at HM
  have HMM := hide hm
  have HK2 := hide k2
  have HL2 := hide hl2
  have HB := hide (below_box w (.cells #[.string nm, .int .i64 sz, .slice A2 N c2] 44))
  have HFL := hide (fun W (hW : Below w.heap.size w W) (k : Nat) (hk : k < N) => rf_field My.law_may W nm sz A2 c2 fs N hN (Kd.C_below hF hW) k hk (fun f hf => by have := k3'.out f hf; omega))
  have HOB := hide (fun W (hW : Below w.heap.size w W) => rf_object W nm sz A2 c2 fs N hN (Kd.C_below hF hW))
  have HVA := hide (fun W (hW : Below w.heap.size w W) => rf_value W nm sz A2 c2 fs N hN (Kd.C_below hF hW))
  have HH2 := hide (fun W (hW : Below w.heap.size w W) => rf_some W nm sz A2 c2 fs N hN (Kd.C_below hF hW) 2 4 4)
  rw [hasK_244] at HH2
  have HH7 := hide (fun W (hW : Below w.heap.size w W) => rf_has W nm sz A2 c2 fs N hN (Kd.C_below hF hW) 7)
  obtain ⟨p1, hp1⟩ : ∃ p, objK fs = p := ⟨_, rfl⟩
  obtain ⟨p2, hp2⟩ : ∃ p, valK fs = p := ⟨_, rfl⟩
  obtain ⟨p3, hp3⟩ : ∃ p, hasK fs [2, 4] = p := ⟨_, rfl⟩
  obtain ⟨p4, hp4⟩ : ∃ p, hasK fs [7] = p := ⟨_, rfl⟩
  rw [hp1] at HOB
  rw [hp2] at HVA
  rw [hp3] at HH2
  rw [hp4] at HH7
  have HMX : Hid (mixF fs = if (p1 = false ∧ p2 = false) ∨ (p3 = true ∧ p4 = false) then (0, 106) else (0, 0)) := by unfold mixF; rw [hp1, hp2, hp3, hp4]; exact hide rfl
  obtain ⟨R, hR⟩ : ∃ R, oneT o nm sz fs i = R := ⟨_, rfl⟩
  rw [hR]
  unfold oneT at hR
  have HR := hide hR
  have hne : cb ≠ w.heap.size := by
    rcases kd_rows hC (by decide) with rfl | ⟨b, o, h, hlt, _⟩
    · simp at ht
    · cases h; omega
  clear hC hl ht hg hsm ho ho2 hN hm hl2 hF k1 k2 k3 hmem hp1 hp2 hp3 hp4 hc hR
  have HT := hide (Has.new w 44 #[.string nm, .int .i64 sz, .slice A2 N c2])
  by_cases c1 : i ≥ 32
  · have d1 : decide ((32 : Int) ≤ (i : Int)) = true := decide_eq_true (by omega)
    go_enter Try.func44, Try.ntmps44
    go_wp2_with fail
    go_ret2
    have e := HR.out
    rw [if_pos c1] at e
    exact ⟨by rw [← e]; rfl, HB.out⟩
  have d1 : decide ((32 : Int) ≤ (i : Int)) = false := decide_eq_false (by omega)
  go_enter Try.func44, Try.ntmps44
  go_wp2_with fail
  refine (HM.out _).mono ?_
  rintro e w1 ⟨rfl, hb1⟩
  have G1 := hide (HT.out.below hb1 HT.out.lt)
  have HB1 := hide (bel_trans HB.out hb1)
  obtain ⟨g, hgg⟩ : ∃ g, w.heap.size = g := ⟨_, rfl⟩
  rw [hgg] at G1 hne ⊢
  have HG := hide hgg
  clear hb1 hgg e0 e1 e2 HT
  have g0 := G1.out.cell 0
  have g1 := G1.out.cell 1
  have g2 := G1.out.cell 2
  simp at g0 g1 g2
  cases m with
  | false =>
    go_wp2_with fail
    go_ret2
    have e := HR.out
    rw [if_neg c1, if_pos HMM.out] at e
    exact ⟨by rw [← e]; rfl, HB1.out⟩
  | true =>
  go_wp2_with fail
  refine (HOF.out _ HB1.out).mono ?_
  rintro e w2 ⟨rfl, hb2⟩
  have G2 := hide (G1.out.below hb2 G1.out.lt)
  have HB2 := hide (bel_trans HB1.out hb2)
  clear hb2 g0 g1 g2 HB1 G1 HOF
  have g0 := G2.out.cell 0
  have g1 := G2.out.cell 1
  have g2 := G2.out.cell 2
  simp at g0 g1 g2
  have HR1 : Hid _ := HR.out
  rw [if_neg c1, if_neg (by rw [HMM.out]; simp)] at HR1
  clear HR
  by_cases c3 : o < (i : Int)
  · have d3 : decide (o < (i : Int)) = true := decide_eq_true c3
    go_wp2_with fail
    go_ret2
    have e := HR1.out
    rw [if_pos c3] at e
    exact ⟨by rw [← e]; rfl, HB2.out⟩
  have d3 : decide (o < (i : Int)) = false := decide_eq_false c3
  rw [if_neg c3] at HR1
  by_cases c4 : Int.tmod sz 8 ≠ 0 ∨ sz < 8 ∨ sz > 128
  · have HR2 := hide HR1.out
    rw [if_pos c4] at HR2
    by_cases c5 : Int.tmod sz 8 = 0
    · have d5 : (Int.tmod sz 8 != 0) = false := by simp [c5]
      by_cases c6 : sz < 8
      · have d6 : decide (sz < 8) = true := decide_eq_true c6
        clear c4 c5 c6
        go_wp2_with fail
        go_ret2
        exact ⟨by rw [← HR2.out]; rfl, HB2.out⟩
      · have d6 : decide (sz < 8) = false := decide_eq_false c6
        have d7 : decide (128 < sz) = true := decide_eq_true (by omega)
        clear c4 c5 c6
        go_wp2_with fail
        go_ret2
        exact ⟨by rw [← HR2.out]; rfl, HB2.out⟩
    · have d5 : (Int.tmod sz 8 != 0) = true := by simp [c5]
      clear c4 c5
      go_wp2_with fail
      go_ret2
      exact ⟨by rw [← HR2.out]; rfl, HB2.out⟩
  have d5 : (Int.tmod sz 8 != 0) = false := by have : Int.tmod sz 8 = 0 := by omega
                                               simp [this]
  have d6 : decide (sz < 8) = false := decide_eq_false (by omega)
  have d7 : decide (128 < sz) = false := decide_eq_false (by omega)
  have HR2 := hide HR1.out
  rw [if_neg c4, HN.out] at HR2
  clear HR1 c4
  by_cases c8 : N > 8
  · have d8 : decide ((8 : Int) < (N : Int)) = true := decide_eq_true (by omega)
    go_wp2_with fail
    go_ret2
    have e := HR2.out
    rw [if_pos c8] at e
    exact ⟨by rw [← e]; rfl, HB2.out⟩
  have d8 : decide ((8 : Int) < (N : Int)) = false := decide_eq_false (by omega)
  rw [if_neg c8] at HR2
  have hN8 : N ≤ 8 := by omega
  clear c8
  go_wp2_with fail
  go_loopw [9] (fun x wr => ∃ (k : Nat), k ≤ N ∧ x = .int .i64 k ∧ (∀ j, j < k → fieldF sz fs j = 0) ∧ Has wr g 44 #[.string nm, .int .i64 sz, .slice A2 N c2] ∧ Below w.heap.size w wr) (fun x _ => N - (intOf x).toNat)
  case atStart => exact ⟨0, Nat.zero_le _, rfl, fun j hj => by omega, G2.out, HB2.out⟩
  case round =>
    clear G2 HB2 g0 g1 g2
    obtain ⟨k, hk, rfl, hall, hH, hB⟩ := hrel
    have HALL := hide hall
    have HH := hide hH
    have HBB := hide hB
    clear hall hB
    have g0 := hH.cell 0
    have g1 := hH.cell 1
    have g2 := hH.cell 2
    simp at g0 g1 g2
    clear hH
    by_cases hkN : k < N
    · have hk1 : (k : Int) < N := by omega
      have hk0 : (0 : Int) ≤ k := by omega
      have HQ := hide (HFL.out _ HBB.out k hkN)
      obtain ⟨r, hr⟩ : ∃ r, fieldF sz fs k = r := ⟨_, rfl⟩
      rw [hr] at HQ
      have HRR := hide hr
      clear hr
      by_cases hr0 : r = 0
      · have dr : (r != 0) = false := by simp [hr0]
        have Hr0 := hide hr0
        clear hr0
        go_wp2_with fail
        refine HQ.out.mono ?_
        rintro e w3 ⟨rfl, hb3⟩
        go_wp2_with fail
        go_roundw
        case rel =>
          refine ⟨k + 1, by omega, by simp, fun j hj => ?_, HH.out.below hb3 HH.out.lt, bel_trans HBB.out hb3⟩
          rcases Nat.lt_or_ge j k with h | h
          · exact HALL.out j h
          · obtain rfl : j = k := by omega
            rw [HRR.out, Hr0.out]
        case measure => simp [intOf]; omega
      · have dr : (r != 0) = true := by simp [hr0]
        have Hr0 := hide hr0
        clear hr0
        go_wp2_with fail
        refine HQ.out.mono ?_
        rintro e w3 ⟨rfl, hb3⟩
        go_wp2_with fail
        go_ret2
        have e := HR2.out
        rw [seekE_of_some (Nat.zero_le k) (by omega) (by rw [HRR.out]; exact Hr0.out) (fun j _ hj => HALL.out j hj)] at e
        simp only [HRR.out] at e
        exact ⟨by rw [← e]; rfl, bel_trans HBB.out hb3⟩
    · obtain rfl : k = N := by omega
      have e : Hid (mixF fs = R) := by
        have e := HR2.out
        rw [seekE_of_none (fun j _ hj => HALL.out j (by omega))] at e
        exact hide e
      rw [HMX.out] at e
      clear HR2 HALL HMX
      go_wp2_with fail
      refine (HH7.out _ HBB.out).mono ?_
      rintro e w3 ⟨p, rfl, hb3⟩
      have G3 := hide (HH.out.below hb3 HH.out.lt)
      have HB3 := hide (bel_trans HBB.out hb3)
      clear hb3 HBB HH g0 g1 g2
      have g0 := G3.out.cell 0
      have g1 := G3.out.cell 1
      have g2 := G3.out.cell 2
      simp at g0 g1 g2
      go_wp2_with fail
      refine (HOB.out _ HB3.out).mono ?_
      rintro e w4 ⟨rfl, hb4⟩
      have G4 := hide (G3.out.below hb4 G3.out.lt)
      have HB4 := hide (bel_trans HB3.out hb4)
      clear hb4 G3 HB3 g0 g1 g2
      have g0 := G4.out.cell 0
      have g1 := G4.out.cell 1
      have g2 := G4.out.cell 2
      simp at g0 g1 g2
      cases p1 with
      | true =>
        cases p3 with
        | false =>
          go_wp2_with fail
          refine (HH2.out _ HB4.out).mono ?_
          rintro e w5 ⟨rfl, hb5⟩
          have G5 := hide (G4.out.below hb5 G4.out.lt)
          have HB5 := hide (bel_trans HB4.out hb5)
          clear hb5 G4 HB4
          go_wp2_with fail
          go_ret2
          have e1 := e.out
          simp at e1
          exact ⟨by rw [← e1]; rfl, HB5.out⟩
        | true =>
          go_wp2_with fail
          refine (HH2.out _ HB4.out).mono ?_
          rintro e w5 ⟨rfl, hb5⟩
          have G5 := hide (G4.out.below hb5 G4.out.lt)
          have HB5 := hide (bel_trans HB4.out hb5)
          clear hb5 G4 HB4
          cases p4 with
          | false =>
            go_wp2_with fail
            go_ret2
            have e1 := e.out
            simp at e1
            exact ⟨by rw [← e1]; rfl, HB5.out⟩
          | true =>
            go_wp2_with fail
            go_ret2
            have e1 := e.out
            simp at e1
            exact ⟨by rw [← e1]; rfl, HB5.out⟩
      | false =>
        cases p2 with
        | false =>
          go_wp2_with fail
          refine (HVA.out _ HB4.out).mono ?_
          rintro e w5 ⟨rfl, hb5⟩
          have G5 := hide (G4.out.below hb5 G4.out.lt)
          have HB5 := hide (bel_trans HB4.out hb5)
          clear hb5 G4 HB4
          go_wp2_with fail
          go_ret2
          have e1 := e.out
          simp at e1
          exact ⟨by rw [← e1]; rfl, HB5.out⟩
        | true =>
          go_wp2_with fail
          refine (HVA.out _ HB4.out).mono ?_
          rintro e w5 ⟨rfl, hb5⟩
          have G5 := hide (G4.out.below hb5 G4.out.lt)
          have HB5 := hide (bel_trans HB4.out hb5)
          clear hb5 G4 HB4
          clear g0 g1 g2
          have g0 := G5.out.cell 0
          have g1 := G5.out.cell 1
          have g2 := G5.out.cell 2
          simp at g0 g1 g2
          cases p3 with
          | false =>
            go_wp2_with fail
            refine (HH2.out _ HB5.out).mono ?_
            rintro e w6 ⟨rfl, hb6⟩
            have G6 := hide (G5.out.below hb6 G5.out.lt)
            have HB6 := hide (bel_trans HB5.out hb6)
            clear hb6 G5 HB5
            go_wp2_with fail
            go_ret2
            have e1 := e.out
            simp at e1
            exact ⟨by rw [← e1]; rfl, HB6.out⟩
          | true =>
            go_wp2_with fail
            refine (HH2.out _ HB5.out).mono ?_
            rintro e w6 ⟨rfl, hb6⟩
            have G6 := hide (G5.out.below hb6 G5.out.lt)
            have HB6 := hide (bel_trans HB5.out hb6)
            clear hb6 G5 HB5
            cases p4 with
            | false =>
              go_wp2_with fail
              go_ret2
              have e1 := e.out
              simp at e1
              exact ⟨by rw [← e1]; rfl, HB6.out⟩
            | true =>
              go_wp2_with fail
              go_ret2
              have e1 := e.out
              simp at e1
              exact ⟨by rw [← e1]; rfl, HB6.out⟩
end Go.Proofs.Ytkflofjcjolehaa

/-! Types: the document's holds, Check. -/
namespace Go.Proofs.Ytkflofjcjolehaa
open Go.RowKit Go.Proofs.YtkflofjcjolehaaW.PrintWords
set_option maxHeartbeats 8000000
set_option maxRecDepth 100000
set_option linter.unusedSimpArgs false
set_option linter.unusedVariables false

theorem rf_holds (w : World) (A : Option Addr) (c : Nat) (l : List Tp) (n : Nat) (hl : l.length = n) (hC : kT.C w A n l) (f : Fl) :
    Calls Try.prog 45 #[.slice A n c, f.val] w fun e w' => e = .returned (.bool (holdsF l f)) ∧ Below w.heap.size w w' := by
  have hn : (n : Int) ≤ 9223372036854775807 := by have := hC.2.1; omega
  obtain ⟨fnm, kd, pl, o, nd⟩ := f
  obtain ⟨R, hR⟩ : ∃ R, holdsF l ⟨fnm, kd, pl, o, nd⟩ = R := ⟨_, rfl⟩
  rw [hR]
  unfold holdsF at hR
  simp only [] at hR
  unfold Fl.val
  have HB := hide (below_box w (.cells #[.string fnm, .int .u8 kd, .int .i64 pl, .int .i64 o, .int .i64 nd] 46))
  by_cases hk : kd = 1 ∨ kd = 2 ∨ kd = 4
  · have e : R = (objAt l o && (if kd = 1 then nd == 0 else if kd = 2 then byAt l o nd 3 else byAt l o nd 5)) := by
      rw [← hR]
      by_cases k1 : kd = 1
      · rw [if_pos k1, if_pos k1]
      · rw [if_neg k1, if_neg k1]
        by_cases k2 : kd = 2
        · rw [if_pos k2, if_pos k2]
        · rw [if_neg k2, if_neg k2, if_pos (by omega)]
    clear hR
    unfold objAt at e
    rw [hl] at e
    have HE := hide e
    have HC := hide hC
    have HL := hide hl
    clear e hC hl
    by_cases h1 : o < 0
    · have d1 : decide (o < 0) = true := decide_eq_true h1
      have e := HE.out
      rw [decide_eq_false (show ¬ o ≥ 0 by omega), Bool.false_and, Bool.false_and] at e
      subst e
      clear h1
      rcases hk with rfl | rfl | rfl
      · go_enter Try.func45, Try.ntmps45
        go_wp2_with fail
        go_ret
        exact ⟨rfl, HB.out⟩
      · go_enter Try.func45, Try.ntmps45
        go_wp2_with fail
        go_ret
        exact ⟨rfl, HB.out⟩
      · go_enter Try.func45, Try.ntmps45
        go_wp2_with fail
        go_ret
        exact ⟨rfl, HB.out⟩
    have d1 : decide (o < 0) = false := decide_eq_false h1
    by_cases h2 : o ≥ (n : Int)
    · have d2 : decide ((n : Int) ≤ o) = true := decide_eq_true h2
      have e := HE.out
      rw [decide_eq_false (show ¬ o < (n : Int) by omega), Bool.false_and, Bool.and_false, Bool.false_and] at e
      subst e
      clear h1 h2
      rcases hk with rfl | rfl | rfl
      · go_enter Try.func45, Try.ntmps45
        go_wp2_with fail
        go_ret
        exact ⟨rfl, HB.out⟩
      · go_enter Try.func45, Try.ntmps45
        go_wp2_with fail
        go_ret
        exact ⟨rfl, HB.out⟩
      · go_enter Try.func45, Try.ntmps45
        go_wp2_with fail
        go_ret
        exact ⟨rfl, HB.out⟩
    obtain ⟨m, rfl⟩ : ∃ m : Nat, o = m := ⟨o.toNat, by omega⟩
    have hmn : m < n := by omega
    have d2 : decide ((n : Int) ≤ (m : Int)) = false := decide_eq_false h2
    have d2' : decide ((m : Int) < (n : Int)) = true := decide_eq_true (by omega)
    have hm0 : (0 : Int) ≤ m := by omega
    have hm1 : (m : Int) < n := by omega
    obtain ⟨t, ht⟩ : ∃ x, l[m]? = some x := ⟨_, List.getElem?_eq_getElem (by rw [HL.out]; exact hmn)⟩
    have hg : l.getD (m : Int).toNat zT = t := by rw [Int.toNat_natCast, List.getD_eq_getElem?_getD, ht]; rfl
    have e := HE.out
    rw [decide_eq_true (show (m : Int) ≥ 0 by omega), decide_eq_true hm1, Bool.true_and, Bool.true_and] at e
    unfold byAt at e
    rw [hg] at e
    obtain ⟨cb, off, A2, c2, rfl, e0, e1, e2, hl2, hF⟩ := tp_at HC.out HB.out ht
    have HF := hide hF
    obtain ⟨N, hN⟩ : ∃ N, t.fs.length = N := ⟨_, rfl⟩
    rw [hN] at e e2 HF
    have HN := hide hN
    have HOB := hide (fun W (hW : Below w.heap.size w W) => rf_object W t.nm t.sz A2 c2 t.fs N HN.out (Kd.C_below HF.out hW))
    obtain ⟨p, hp⟩ : ∃ p, objK t.fs = p := ⟨_, rfl⟩
    rw [hp] at e HOB
    have HE2 := hide e
    clear HE e h1 h2 hg ht hp hN hF hl2
    have HK := hide hk
    cases p with
    | false =>
      have e := HE2.out
      rw [Bool.false_and] at e
      subst e
      rcases hk with rfl | rfl | rfl
      · go_enter Try.func45, Try.ntmps45
        go_wp2_with fail
        refine (HOB.out _ HB.out).mono ?_
        rintro e w1 ⟨rfl, hb1⟩
        go_wp2_with fail
        go_ret
        exact ⟨rfl, bel_trans HB.out hb1⟩
      · go_enter Try.func45, Try.ntmps45
        go_wp2_with fail
        refine (HOB.out _ HB.out).mono ?_
        rintro e w1 ⟨rfl, hb1⟩
        go_wp2_with fail
        go_ret
        exact ⟨rfl, bel_trans HB.out hb1⟩
      · go_enter Try.func45, Try.ntmps45
        go_wp2_with fail
        refine (HOB.out _ HB.out).mono ?_
        rintro e w1 ⟨rfl, hb1⟩
        go_wp2_with fail
        go_ret
        exact ⟨rfl, bel_trans HB.out hb1⟩
    | true =>
      rw [Bool.true_and] at HE2
      have HT := hide (Has.new w 46 #[.string fnm, .int .u8 kd, .int .i64 pl, .int .i64 m, .int .i64 nd])
      rcases hk with rfl | rfl | rfl
      · rw [if_pos rfl] at HE2
        go_enter Try.func45, Try.ntmps45
        go_wp2_with fail
        refine (HOB.out _ HB.out).mono ?_
        rintro e w1 ⟨rfl, hb1⟩
        have HG := hide (HT.out.below hb1 HT.out.lt)
        have f1 := HG.out.cell 1
        have f4 := HG.out.cell 4
        simp at f1 f4
        have HB1 := hide (bel_trans HB.out hb1)
        clear hb1
        have e := HE2.out
        subst e
        go_wp2_with fail
        go_ret
        exact ⟨rfl, HB1.out⟩
      · rw [if_neg (by decide), if_pos rfl] at HE2
        go_enter Try.func45, Try.ntmps45
        go_wp2_with fail
        refine (HOB.out _ HB.out).mono ?_
        rintro e w1 ⟨rfl, hb1⟩
        have HG := hide (HT.out.below hb1 HT.out.lt)
        have f1 := HG.out.cell 1
        have f3 := HG.out.cell 3
        have f4 := HG.out.cell 4
        simp at f1 f3 f4
        have x2 := cell_bel e2 hb1
        have HB1 := hide (bel_trans HB.out hb1)
        clear hb1 e0 e1 e2
        by_cases q1 : nd < 0
        · have dq : decide ((0 : Int) ≤ nd) = false := decide_eq_false (by omega)
          have e := HE2.out
          rw [decide_eq_false (show ¬ nd ≥ 0 by omega), Bool.false_and] at e
          subst e
          clear q1
          go_wp2_with fail
          go_quiet (fail)
          go_wp2_with fail
          go_ret
          exact ⟨rfl, Below.drewN_ HB1.out _⟩
        obtain ⟨k, rfl⟩ : ∃ k : Nat, nd = k := ⟨nd.toNat, by omega⟩
        have dq : decide ((0 : Int) ≤ (k : Int)) = true := decide_eq_true (by omega)
        have HE3 := hide HE2.out
        rw [show decide ((k : Int) ≥ 0) = true from dq, Bool.true_and, Int.toNat_natCast] at HE3
        by_cases q2 : (k : Int) < N
        · have dr : decide ((k : Int) < (N : Int)) = true := decide_eq_true q2
          have hk0 : (0 : Int) ≤ k := by omega
          obtain ⟨y, hy⟩ : ∃ x, t.fs[k]? = some x := ⟨_, List.getElem?_eq_getElem (by rw [HN.out]; omega)⟩
          have hgy : t.fs.getD k zF = y := by rw [List.getD_eq_getElem?_getD, hy]; rfl
          rw [dr, Bool.true_and, hgy] at HE3
          obtain ⟨fb, fo, rfl, y0, y1, y2, y3, y4⟩ := fl_at HF.out HB1.out hy
          clear hy hgy y0 y2 y3 y4 q1
          cases hq : (y.kd == 3) with
          | true =>
            have e := HE3.out
            rw [hq] at e
            subst e
            go_wp2_with fail
            go_quiet (fail)
            go_wp2_with fail
            go_ret
            exact ⟨rfl, Below.drewN_ HB1.out _⟩
          | false =>
            have e := HE3.out
            rw [hq] at e
            subst e
            go_wp2_with fail
            go_quiet (fail)
            go_wp2_with fail
            go_ret
            exact ⟨rfl, Below.drewN_ HB1.out _⟩
        · have dr' : decide (k < N) = false := decide_eq_false (by omega)
          have dr : decide ((k : Int) < (N : Int)) = false := decide_eq_false q2
          have e := HE3.out
          rw [dr, Bool.false_and] at e
          subst e
          clear q1 q2
          go_wp2_with fail
          go_quiet (fail)
          go_wp2_with fail
          go_ret
          exact ⟨rfl, Below.drewN_ HB1.out _⟩
      · rw [if_neg (by decide), if_neg (by decide)] at HE2
        go_enter Try.func45, Try.ntmps45
        go_wp2_with fail
        refine (HOB.out _ HB.out).mono ?_
        rintro e w1 ⟨rfl, hb1⟩
        have HG := hide (HT.out.below hb1 HT.out.lt)
        have f1 := HG.out.cell 1
        have f3 := HG.out.cell 3
        have f4 := HG.out.cell 4
        simp at f1 f3 f4
        have x2 := cell_bel e2 hb1
        have HB1 := hide (bel_trans HB.out hb1)
        clear hb1 e0 e1 e2
        by_cases q1 : nd < 0
        · have dq : decide ((0 : Int) ≤ nd) = false := decide_eq_false (by omega)
          have e := HE2.out
          rw [decide_eq_false (show ¬ nd ≥ 0 by omega), Bool.false_and] at e
          subst e
          clear q1
          go_wp2_with fail
          go_quiet (fail)
          go_wp2_with fail
          go_ret
          exact ⟨rfl, Below.drewN_ HB1.out _⟩
        obtain ⟨k, rfl⟩ : ∃ k : Nat, nd = k := ⟨nd.toNat, by omega⟩
        have dq : decide ((0 : Int) ≤ (k : Int)) = true := decide_eq_true (by omega)
        have HE3 := hide HE2.out
        rw [show decide ((k : Int) ≥ 0) = true from dq, Bool.true_and, Int.toNat_natCast] at HE3
        by_cases q2 : (k : Int) < N
        · have dr : decide ((k : Int) < (N : Int)) = true := decide_eq_true q2
          have hk0 : (0 : Int) ≤ k := by omega
          obtain ⟨y, hy⟩ : ∃ x, t.fs[k]? = some x := ⟨_, List.getElem?_eq_getElem (by rw [HN.out]; omega)⟩
          have hgy : t.fs.getD k zF = y := by rw [List.getD_eq_getElem?_getD, hy]; rfl
          rw [dr, Bool.true_and, hgy] at HE3
          obtain ⟨fb, fo, rfl, y0, y1, y2, y3, y4⟩ := fl_at HF.out HB1.out hy
          clear hy hgy y0 y2 y3 y4 q1
          cases hq : (y.kd == 5) with
          | true =>
            have e := HE3.out
            rw [hq] at e
            subst e
            go_wp2_with fail
            go_quiet (fail)
            go_wp2_with fail
            go_ret
            exact ⟨rfl, Below.drewN_ HB1.out _⟩
          | false =>
            have e := HE3.out
            rw [hq] at e
            subst e
            go_wp2_with fail
            go_quiet (fail)
            go_wp2_with fail
            go_ret
            exact ⟨rfl, Below.drewN_ HB1.out _⟩
        · have dr' : decide (k < N) = false := decide_eq_false (by omega)
          have dr : decide ((k : Int) < (N : Int)) = false := decide_eq_false q2
          have e := HE3.out
          rw [dr, Bool.false_and] at e
          subst e
          clear q1 q2
          go_wp2_with fail
          go_quiet (fail)
          go_wp2_with fail
          go_ret
          exact ⟨rfl, Below.drewN_ HB1.out _⟩
  · have k1 : ¬ kd = 1 := fun e => hk (.inl e)
    have k2 : ¬ kd = 2 := fun e => hk (.inr (.inl e))
    have k4 : ¬ kd = 4 := fun e => hk (.inr (.inr e))
    rw [if_neg k1, if_neg k2, if_neg k4] at hR
    have b1 : (kd != 1) = true := by simp [k1]
    have b2 : (kd != 2) = true := by simp [k2]
    have b4 : (kd != 4) = true := by simp [k4]
    clear hk k1 k2 k4 hC hl
    cases ho : (o == 0) with
    | true =>
      rw [ho, Bool.true_and] at hR
      subst hR
      go_enter Try.func45, Try.ntmps45
      go_wp2_with fail
      go_ret
      exact ⟨rfl, HB.out⟩
    | false =>
      rw [ho, Bool.false_and] at hR
      subst hR
      go_enter Try.func45, Try.ntmps45
      go_wp2_with fail
      go_ret
      exact ⟨rfl, HB.out⟩

theorem rf_check (w : World) (A : Option Addr) (c : Nat) (l : List Tp) (n : Nat) (hl : l.length = n) (hC : kT.C w A n l) (hc : n ≤ c) (hsm : Small l) :
    Calls Try.prog 19 #[.slice A n c] w fun e w' => e = .returned (.tuple #[.int .i64 (checkF l).1, .int .i64 (checkF l).2.1, .int .i64 (checkF l).2.2]) ∧ Below w.heap.size w w' := by
  have hok := hsm.ok
  have hn : n ≤ 1000000000000000 := by rw [← hl]; exact okTps_len hok
  have HL := hide hl
  have HC := hide hC
  have HOK := hide hok
  have HON := hide (fun W (hW : Below w.heap.size w W) i (hi : i < n) => rf_one W A c l n hl (Kd.C_below hC hW) hc i hi hsm)
  have HHO := hide (fun W (hW : Below w.heap.size w W) f => rf_holds W A c l n hl (Kd.C_below hC hW) f)
  obtain ⟨R, hR⟩ : ∃ R, checkF l = R := ⟨_, rfl⟩
  rw [hR]
  unfold checkF at hR
  rw [hl] at hR
  have HR := hide hR
  clear hl hC hc hok hR hsm
  go_enter Try.func19, Try.ntmps19
  go_wp2_with fail
  go_loopw [5] (fun x wr => ∃ (k : Nat), k ≤ n ∧ x = .int .i64 k ∧ (∀ j, j < k → (oneF l j).2 = 0) ∧ Below w.heap.size w wr) (fun x _ => n - (intOf x).toNat)
  case atStart => exact ⟨0, Nat.zero_le _, rfl, fun j hj => by omega, Below.refl _ w⟩
  case round =>
    obtain ⟨k, hk, rfl, hall, hB⟩ := hrel
    have HALL := hide hall
    have HBB := hide hB
    clear hall hB
    by_cases hkn : k < n
    · have hk1 : (k : Int) < n := by omega
      have hk0 : (0 : Int) ≤ k := by omega
      have HQ := hide (HON.out _ HBB.out k hkn)
      obtain ⟨r1, hr1⟩ : ∃ r, (oneF l k).1 = r := ⟨_, rfl⟩
      obtain ⟨r, hr⟩ : ∃ r, (oneF l k).2 = r := ⟨_, rfl⟩
      rw [hr, hr1] at HQ
      have HRR := hide hr
      have HR1 := hide hr1
      clear hr hr1
      by_cases hr0 : r = 0
      · have dr : (r != 0) = false := by simp [hr0]
        have Hr0 := hide hr0
        clear hr0
        go_wp2_with fail
        refine HQ.out.mono ?_
        rintro e w3 ⟨rfl, hb3⟩
        go_wp2_with fail
        go_roundw
        case rel =>
          refine ⟨k + 1, by omega, by simp, fun j hj => ?_, bel_trans HBB.out hb3⟩
          rcases Nat.lt_or_ge j k with h | h
          · exact HALL.out j h
          · obtain rfl : j = k := by omega
            rw [HRR.out, Hr0.out]
        case measure => simp [intOf]; omega
      · have dr : (r != 0) = true := by simp [hr0]
        have Hr0 := hide hr0
        clear hr0
        go_wp2_with fail
        refine HQ.out.mono ?_
        rintro e w3 ⟨rfl, hb3⟩
        go_wp2_with fail
        go_ret3
        have e := HR.out
        rw [seekE_of_some (Nat.zero_le k) (by omega) (by rw [HRR.out]; exact Hr0.out) (fun j _ hj => HALL.out j hj)] at e
        simp only [HRR.out, HR1.out] at e
        exact ⟨by rw [← e]; rfl, bel_trans HBB.out hb3⟩
    · obtain rfl : k = n := by omega
      have HR2 := hide HR.out
      rw [seekE_of_none (fun j _ hj => HALL.out j (by omega))] at HR2
      clear HALL HR hkn
      go_wp2_with fail
      go_loopw [8] (fun x wr => ∃ (i : Nat), i ≤ k ∧ x = .int .i64 i ∧ (∀ j, j < i → badHold l (l.getD j zT) = none) ∧ Below w.heap.size w wr) (fun x _ => k - (intOf x).toNat)
      case atStart => exact ⟨0, Nat.zero_le _, rfl, fun j hj => by omega, HBB.out⟩
      case round =>
        clear HBB
        obtain ⟨i, hi, rfl, hall, hB⟩ := hrel
        have HALL := hide hall
        have HBB := hide hB
        clear hall
        by_cases hik : i < k
        · have hi1 : (i : Int) < k := by omega
          have hi0 : (0 : Int) ≤ i := by omega
          obtain ⟨t, ht⟩ : ∃ x, l[i]? = some x := ⟨_, List.getElem?_eq_getElem (by rw [HL.out]; exact hik)⟩
          have hg : l.getD i zT = t := by rw [List.getD_eq_getElem?_getD, ht]; rfl
          have hfn := (okTp_nm (by have := okTp_get HOK.out i (by rw [HL.out]; exact hik); rwa [hg] at this)).2.1
          obtain ⟨cb, off, A2, c2, rfl, E0, E1, E2, hl2, hF⟩ := tp_at HC.out (Below.refl _ w) ht
          have e2 := cell_bel E2 hB
          have HE2 := hide E2
          clear E0 E1 E2
          have HG := hide hg
          have HF := hide hF
          obtain ⟨N, hN⟩ : ∃ N, t.fs.length = N := ⟨_, rfl⟩
          rw [hN] at e2 hl2 HF hfn HE2
          have HN := hide hN
          have HL2 := hide hl2
          clear hg hF hN hB ht hl2
          go_wp2_with fail
          go_loopw [9] (fun x wr => ∃ (j : Nat), j ≤ N ∧ x = .int .i64 j ∧ (∀ m, m < j → holdsF l (t.fs.getD m zF) = true) ∧ Below w.heap.size w wr) (fun x _ => N - (intOf x).toNat)
          case atStart => exact ⟨0, Nat.zero_le _, rfl, fun j hj => by omega, HBB.out⟩
          case round =>
            clear HBB e2
            obtain ⟨j, hj, rfl, hallj, hB⟩ := hrel
            have e2 := cell_bel HE2.out hB
            have HAJ := hide hallj
            have HBB := hide hB
            clear hallj
            by_cases hjN : j < N
            · have hj1 : (j : Int) < N := by omega
              have hj0 : (0 : Int) ≤ j := by omega
              obtain ⟨f, hf⟩ : ∃ x, t.fs[j]? = some x := ⟨_, List.getElem?_eq_getElem (by rw [HN.out]; exact hjN)⟩
              have hgf : t.fs.getD j zF = f := by rw [List.getD_eq_getElem?_getD, hf]; rfl
              obtain ⟨fb, fo, rfl, f0, f1, f2, f3, f4⟩ := fl_at HF.out hB hf
              have HGF := hide hgf
              have HQ := hide (HHO.out _ HBB.out f)
              unfold Fl.val at HQ
              obtain ⟨r, hr⟩ : ∃ r, holdsF l f = r := ⟨_, rfl⟩
              rw [hr] at HQ
              have HRR := hide hr
              clear hr hgf hf hB
              cases r with
              | true =>
                go_wp2_with fail
                refine HQ.out.mono ?_
                rintro e w3 ⟨rfl, hb3⟩
                go_wp2_with fail
                go_roundw
                case rel =>
                  refine ⟨j + 1, by omega, by simp, fun m hm => ?_, bel_trans HBB.out hb3⟩
                  rcases Nat.lt_or_ge m j with h | h
                  · exact HAJ.out m h
                  · obtain rfl : m = j := by omega
                    rw [HGF.out, HRR.out]
                case measure => simp [intOf]; omega
              | false =>
                go_wp2_with fail
                refine HQ.out.mono ?_
                rintro e w3 ⟨rfl, hb3⟩
                go_wp2_with fail
                go_ret3
                have hbh : badHold l (l.getD i zT) = some j := by
                  unfold badHold
                  rw [HG.out, HN.out]
                  exact seekE_of_some (Nat.zero_le j) (by omega) (by rw [HGF.out, HRR.out]; decide) (fun m _ hm => by rw [HAJ.out m hm]; rfl)
                have e := HR2.out
                rw [seekE_of_some (Nat.zero_le i) (by omega) (by rw [hbh]; simp) (fun m _ hm => by rw [HALL.out m hm]; rfl)] at e
                simp only [hbh, Option.getD_some] at e
                exact ⟨by rw [← e]; rfl, bel_trans HBB.out hb3⟩
            · obtain rfl : j = N := by omega
              have hbh : Hid (badHold l (l.getD i zT) = none) := by
                refine hide ?_
                unfold badHold
                rw [HG.out, HN.out]
                exact seekE_of_none (fun m _ hm => by rw [HAJ.out m (by omega)]; rfl)
              clear HAJ hjN hB
              go_wp2_with fail
              go_roundw
              case rel =>
                refine ⟨i + 1, by omega, by simp, fun m hm => ?_, HBB.out⟩
                rcases Nat.lt_or_ge m i with h | h
                · exact HALL.out m h
                · obtain rfl : m = i := by omega
                  exact hbh.out
              case measure => simp [intOf]; omega
        · obtain rfl : i = k := by omega
          have e := HR2.out
          rw [seekE_of_none (fun m _ hm => by rw [HALL.out m (by omega)]; rfl)] at e
          have HE := hide e
          clear e HALL HR2 hik hB
          go_wp2_with fail
          go_ret3
          exact ⟨by rw [← HE.out]; rfl, HBB.out⟩
end Go.Proofs.Ytkflofjcjolehaa

/-! Types: Checks. -/
namespace Go.Proofs.Ytkflofjcjolehaa
open Go.RowKit Go.Proofs.YtkflofjcjolehaaW.PrintWords
set_option maxHeartbeats 4000000
set_option maxRecDepth 100000
set_option linter.unusedSimpArgs false
set_option linter.unusedVariables false

theorem checks_walk (w : World) (A : Option Addr) (n c : Nat) (l : List Tp) (hl : l.length = n) (hc : n ≤ c) (hC : kT.C w A n l) (hrd : rdTps l) :
    Calls Try.prog 4 #[.slice A n c] w fun e w' => e = .returned (.bool true) ∧ Below w.heap.size w w' := by
  have HLG := hide (Lg.law_large w A c l n hl hC hc hrd)
  cases hlg : largeF l with
  | true =>
    rw [hlg] at HLG
    clear hl hC hc hrd hlg
    go_enter Try.func4, Try.ntmps4
    go_wp2_with fail
    refine HLG.out.mono ?_
    rintro e w1 ⟨rfl, hB1⟩
    have HB1 := hide hB1
    clear hB1
    go_wp2_with fail
    refine (law_alive _).mono ?_
    rintro e w2 ⟨rfl, hB2⟩
    go_wp2_with fail
    go_ret
    exact ⟨rfl, bel_trans HB1.out hB2⟩
  | false =>
    rw [hlg] at HLG
    have hs := small_of hrd hlg
    have HCK := hide (fun W (hW : Below w.heap.size w W) => ty_check W A c l n hl (Kd.C_below hC hW) hc hs.ok)
    have HRF := hide (fun W (hW : Below w.heap.size w W) => rf_check W A c l n hl (Kd.C_below hC hW) hc hs)
    obtain ⟨r1, hr1⟩ : ∃ r, (checkF l).1 = r := ⟨_, rfl⟩
    obtain ⟨r2, hr2⟩ : ∃ r, (checkF l).2.1 = r := ⟨_, rfl⟩
    obtain ⟨r3, hr3⟩ : ∃ r, (checkF l).2.2 = r := ⟨_, rfl⟩
    rw [hr1, hr2, hr3] at HCK HRF
    have x1 : (r1 == r1) = true := by simp
    have x2 : (r2 == r2) = true := by simp
    have x3 : (r3 == r3) = true := by simp
    clear hl hC hc hrd hlg hs hr1 hr2 hr3
    go_enter Try.func4, Try.ntmps4
    go_wp2_with fail
    refine HLG.out.mono ?_
    rintro e w1 ⟨rfl, hB1⟩
    have HB1 := hide hB1
    clear hB1
    go_wp2_with fail
    refine (HCK.out _ HB1.out).mono ?_
    rintro e w2 ⟨rfl, hB2⟩
    have HB2 := hide (bel_trans HB1.out hB2)
    clear hB2 HB1
    go_wp2_with fail
    refine (HRF.out _ HB2.out).mono ?_
    rintro e w3 ⟨rfl, hB3⟩
    have HB3 := hide (bel_trans HB2.out hB3)
    clear hB3 HB2
    go_wp2_with fail
    refine (law_alive _).mono ?_
    rintro e w4 ⟨rfl, hB4⟩
    go_wp2_with fail
    go_ret
    exact ⟨rfl, bel_trans HB3.out hB4⟩
end Go.Proofs.Ytkflofjcjolehaa
