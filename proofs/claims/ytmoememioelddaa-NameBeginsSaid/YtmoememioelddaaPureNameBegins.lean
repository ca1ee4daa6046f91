/- NameBegins in plain Lean: a name's beginning is a name. -/
import Derived.Test.YtmoememioelddaaHNameBeginsx3
import Derived.Test.YtmoememioelddaaNameText
import Derived.Test.YtmoememioelddaaWf
import Derived.Test.YtmoememioelddaaNameFields
import Derived.Test.YtmoememioelddaaNameWords
namespace Go.Proofs.Ytmoememioelddaa.Pure
open Go.RowKit Go.Proofs.Ytmoememioelddaa.HNameBegins Go.Proofs.YtmoememioelddaaW.PrintWords Go.Proofs.YtmoememioelddaaW.PrintLast

theorem alive_true : wardenlaw09_alive.f = some true := by decide +kernel

theorem bt_nat (s : ByteArray) (i : Nat) (h : i < s.size) : bt s i = byteN s 0 i := by
  unfold bt
  rw [dif_pos (by simpa using h)]
  have g := list_byteN s 0 i (by omega)
  rw [List.drop_zero, Array.getElem?_toList, Array.getElem?_eq_getElem (by simpa using h)] at g
  have g := Option.some.inj g
  show ((s.data[i]'(by simpa using h)).toNat : Int) = _
  rw [g, ofNat_toNat (byteN_lt s 0 i)]

theorem wrap64_small (x : Int) (h0 : -1000000000 ≤ x) (h1 : x ≤ 1000000000) : wrap64 x = x := by
  unfold wrap64
  omega

/-- A byte of a rune behind its first one. -/
def tailN (s : ByteArray) (i : Nat) : Int := if i < s.size ∧ byteN s 0 i / 64 = 2 then ((byteN s 0 i % 64 : Nat) : Int) else -1

theorem tail_eq (s : ByteArray) (i : Nat) : wardenref09_tail.f s (i : Int) = some (tailN s i) := by
  unfold wardenref09_tail.f tailN
  by_cases h : i < s.size
  · have hb := byteN_lt s 0 i
    rw [if_neg (by omega), if_pos (by omega), if_pos (by omega), bt_nat s i h]
    rcases Nat.lt_or_ge (byteN s 0 i) 128 with h1 | h1
    · rw [if_pos (by omega), if_neg (by omega)]
    · rw [if_neg (by omega)]
      rcases Nat.lt_or_ge 191 (byteN s 0 i) with h2 | h2
      · rw [if_pos (by omega), if_neg (by omega)]
      · rw [if_neg (by omega), if_pos (by omega), wrap64_small (byteN s 0 i) (by omega) (by omega), wrap64_small _ (by omega) (by omega)]
        congr 1
        omega
  · rw [if_pos (by omega), if_neg (by omega)]

/-- What the reference reads of a text that is not empty. -/
def readN (s : ByteArray) : Int × Int := if badAt s 0 then (-1, 0) else (((Utf8.decode s 0).1 : Int), ((Utf8.decode s 0).2 : Int))

theorem tailN_range (s : ByteArray) (i : Nat) : -1 ≤ tailN s i ∧ tailN s i ≤ 63 := by
  unfold tailN
  split <;> omega

theorem read_step (s : ByteArray) (k : Nat) (n r least : Int) (j : Nat) (hj : (j : Int) < n) (hr0 : 0 ≤ r) (hr1 : r ≤ 1000000) (hj2 : j < 10) :
    wardenref09_Read.l0 (k + 1) s n r least j = if tailN s j < 0 then some (-1, 0) else wardenref09_Read.l0 k s n (64 * r + tailN s j) least ((j + 1 : Nat) : Int) := by
  have ht := tailN_range s j
  simp only [wardenref09_Read.l0]
  rw [if_pos hj, tail_eq]
  simp only [Option.bind_some]
  rw [wrap64_small (64 * r) (by omega) (by omega), wrap64_small _ (by omega) (by omega), wrap64_small ((j : Int) + 1) (by omega) (by omega)]
  rfl

theorem read_end (s : ByteArray) (k : Nat) (n r least : Int) : wardenref09_Read.l0 (k + 1) s n r least n = if r < least ∨ r > 1114111 ∨ (r ≥ 55296 ∧ r ≤ 57343) then some (-1, 0) else some (r, n) := by
  simp only [wardenref09_Read.l0]
  rw [if_neg (by omega)]
  by_cases h1 : r < least
  · rw [if_pos h1, if_pos (.inl h1)]
  · rw [if_neg h1]
    by_cases h2 : r > 1114111
    · rw [if_pos h2, if_pos (.inr (.inl h2))]
    · rw [if_neg h2]
      by_cases h3 : r ≥ 55296
      · rw [if_pos h3]
        by_cases h4 : r ≤ 57343
        · rw [if_pos h4, if_pos (.inr (.inr ⟨h3, h4⟩))]
        · rw [if_neg h4, if_neg (by omega)]
      · rw [if_neg h3, if_neg (by omega)]

/-- The model's decoding, as a chain of tests. -/
theorem decode_tests (s : ByteArray) (h : 0 < s.size) : readN s =
    if byteN s 0 0 < 128 then ((byteN s 0 0 : Int), 1)
    else if byteN s 0 0 / 32 = 6 then (if tailN s 1 < 0 then (-1, 0) else if 64 * ((byteN s 0 0 : Int) - 192) + tailN s 1 < 128 then (-1, 0) else (64 * ((byteN s 0 0 : Int) - 192) + tailN s 1, 2))
    else if byteN s 0 0 / 16 = 14 then (if tailN s 1 < 0 then (-1, 0) else if tailN s 2 < 0 then (-1, 0) else
      if 64 * (64 * ((byteN s 0 0 : Int) - 224) + tailN s 1) + tailN s 2 < 2048 ∨ (64 * (64 * ((byteN s 0 0 : Int) - 224) + tailN s 1) + tailN s 2 ≥ 55296 ∧ 64 * (64 * ((byteN s 0 0 : Int) - 224) + tailN s 1) + tailN s 2 ≤ 57343) then (-1, 0)
      else (64 * (64 * ((byteN s 0 0 : Int) - 224) + tailN s 1) + tailN s 2, 3))
    else if byteN s 0 0 / 8 = 30 then (if tailN s 1 < 0 then (-1, 0) else if tailN s 2 < 0 then (-1, 0) else if tailN s 3 < 0 then (-1, 0) else
      if 64 * (64 * (64 * ((byteN s 0 0 : Int) - 240) + tailN s 1) + tailN s 2) + tailN s 3 < 65536 ∨ 64 * (64 * (64 * ((byteN s 0 0 : Int) - 240) + tailN s 1) + tailN s 2) + tailN s 3 > 1114111 then (-1, 0)
      else (64 * (64 * (64 * ((byteN s 0 0 : Int) - 240) + tailN s 1) + tailN s 2) + tailN s 3, 4))
    else (-1, 0) := by
  have b0 := byteN_lt s 0 0
  have b1 := byteN_lt s 0 1
  have b2 := byteN_lt s 0 2
  have b3 := byteN_lt s 0 3
  have hd := dec_of s 0
  unfold readN badAt
  by_cases hbad : (Utf8.decode s 0).1 = 65533 ∧ (Utf8.decode s 0).2 = 1
  · have e : ((Utf8.decode s 0).1 == 65533 && (Utf8.decode s 0).2 == 1) = true := by simp [hbad.1, hbad.2]
    rw [e, if_pos rfl]
    -- no rune: none of the ways is open
    have key : ∀ c m, validN c = true → s.data.toList.drop 0 = encL c ++ m → False := fun c m hv hm => by
      have := not_bad s 0 c m hv hm
      unfold badAt at this
      rw [e] at this
      cases this
    have lb : ∀ k, k < s.size → s.data.toList.drop k = UInt8.ofNat (byteN s 0 k) :: s.data.toList.drop (k + 1) := fun k hk => by
      have g := list_byteN s 0 k (by omega)
      rw [List.drop_zero] at g
      exact drop_cons4 (by rw [List.getElem?_drop]; exact g)
    have n0 := lb 0 h
    split
    · rename_i g
      exact (key (byteN s 0 0) (s.data.toList.drop 1) (by unfold validN; simp; omega) (by rw [n0]; unfold encL; rw [if_pos g]; rfl)).elim
    · split
      · rename_i g
        split
        · rfl
        · split
          · rfl
          · rename_i t1 t2
            exfalso
            unfold tailN at t1 t2
            split at t1
            · rename_i q1
              rw [if_pos q1] at t2
              obtain ⟨c, hc⟩ : ∃ c, byteN s 0 0 % 32 * 64 + byteN s 0 1 % 64 = c := ⟨_, rfl⟩
              refine key c (s.data.toList.drop 2) (by unfold validN; simp; omega) ?_
              rw [n0, lb 1 q1.1]
              unfold encL
              rw [if_neg (by omega), if_pos (by omega), show 192 + c / 64 = byteN s 0 0 by omega, show 128 + c % 64 = byteN s 0 1 by omega]
              rfl
            · omega
      · split
        · rename_i g
          split
          · rfl
          · split
            · rfl
            · split
              · rfl
              · rename_i t1 t2 t3
                exfalso
                unfold tailN at t1 t2 t3
                split at t1
                · rename_i q1
                  rw [if_pos q1] at t3
                  split at t2
                  · rename_i q2
                    rw [if_pos q2] at t3
                    obtain ⟨c, hc⟩ : ∃ c, byteN s 0 0 % 16 * 4096 + byteN s 0 1 % 64 * 64 + byteN s 0 2 % 64 = c := ⟨_, rfl⟩
                    refine key c (s.data.toList.drop 3) (by unfold validN; simp; omega) ?_
                    rw [n0, lb 1 q1.1, lb 2 q2.1]
                    unfold encL
                    rw [if_neg (by omega), if_neg (by omega), if_pos (by omega), show 224 + c / 4096 = byteN s 0 0 by omega, show 128 + c / 64 % 64 = byteN s 0 1 by omega, show 128 + c % 64 = byteN s 0 2 by omega]
                    rfl
                  · omega
                · omega
        · split
          · rename_i g
            split
            · rfl
            · split
              · rfl
              · split
                · rfl
                · split
                  · rfl
                  · rename_i t1 t2 t3 t4
                    exfalso
                    unfold tailN at t1 t2 t3 t4
                    split at t1
                    · rename_i q1
                      rw [if_pos q1] at t4
                      split at t2
                      · rename_i q2
                        rw [if_pos q2] at t4
                        split at t3
                        · rename_i q3
                          rw [if_pos q3] at t4
                          obtain ⟨c, hc⟩ : ∃ c, byteN s 0 0 % 8 * 262144 + byteN s 0 1 % 64 * 4096 + byteN s 0 2 % 64 * 64 + byteN s 0 3 % 64 = c := ⟨_, rfl⟩
                          refine key c (s.data.toList.drop 4) (by unfold validN; simp; omega) ?_
                          rw [n0, lb 1 q1.1, lb 2 q2.1, lb 3 q3.1]
                          unfold encL
                          rw [if_neg (by omega), if_neg (by omega), if_neg (by omega), show 240 + c / 262144 = byteN s 0 0 by omega, show 128 + c / 4096 % 64 = byteN s 0 1 by omega, show 128 + c / 64 % 64 = byteN s 0 2 by omega, show 128 + c % 64 = byteN s 0 3 by omega]
                          rfl
                        · omega
                      · omega
                    · omega
          · rfl
  · have e : ((Utf8.decode s 0).1 == 65533 && (Utf8.decode s 0).2 == 1) = false := by
      cases hq : ((Utf8.decode s 0).1 == 65533 && (Utf8.decode s 0).2 == 1)
      · rfl
      · simp at hq
        exact (hbad hq).elim
    rw [e]
    simp only [Bool.false_eq_true, if_false]
    clear e
    generalize (Utf8.decode s 0).1 = c at hd hbad
    generalize (Utf8.decode s 0).2 = v at hd hbad
    cases hd with
    | one g => rw [if_pos g]; rfl
    | bad => exact (hbad ⟨rfl, rfl⟩).elim
    | two g0 l1 g1 hm =>
      have t1 : tailN s 1 = ((byteN s 0 1 % 64 : Nat) : Int) := by unfold tailN; rw [if_pos ⟨by omega, g1⟩]
      rw [if_neg (by omega), if_pos g0, t1, if_neg (by omega), if_neg (by omega)]
      congr 1
      omega
    | three g0 l1 g1 l2 g2 hm hv =>
      have t1 : tailN s 1 = ((byteN s 0 1 % 64 : Nat) : Int) := by unfold tailN; rw [if_pos ⟨by omega, g1⟩]
      have t2 : tailN s 2 = ((byteN s 0 2 % 64 : Nat) : Int) := by unfold tailN; rw [if_pos ⟨by omega, g2⟩]
      simp [Utf8.valid] at hv
      rw [if_neg (by omega), if_neg (by omega), if_pos g0, t1, t2, if_neg (by omega), if_neg (by omega), if_neg (by omega)]
      congr 1
      omega
    | four g0 l1 g1 l2 g2 l3 g3 hm hv =>
      have t1 : tailN s 1 = ((byteN s 0 1 % 64 : Nat) : Int) := by unfold tailN; rw [if_pos ⟨by omega, g1⟩]
      have t2 : tailN s 2 = ((byteN s 0 2 % 64 : Nat) : Int) := by unfold tailN; rw [if_pos ⟨by omega, g2⟩]
      have t3 : tailN s 3 = ((byteN s 0 3 % 64 : Nat) : Int) := by unfold tailN; rw [if_pos ⟨by omega, g3⟩]
      simp [Utf8.valid] at hv
      rw [if_neg (by omega), if_neg (by omega), if_neg (by omega), if_pos g0, t1, t2, t3, if_neg (by omega), if_neg (by omega), if_neg (by omega), if_neg (by omega)]
      congr 1
      omega

set_option maxRecDepth 100000 in
theorem read_eq (s : ByteArray) (h : 0 < s.size) : Ev (fun k => wardenref09_Read.f k s) (readN s) := by
  refine ⟨12, fun k hk => ?_⟩
  obtain ⟨k, rfl⟩ : ∃ m, k = m + 10 := ⟨k - 10, by omega⟩
  have b0 := byteN_lt s 0 0
  have hne : ¬ s.toList = ([] : List UInt8) := by
    rw [ByteArray.toList_eq]
    intro he
    have := congrArg List.length he
    rw [Array.length_toList, List.length_nil] at this
    have : s.size = 0 := this
    omega
  have r1 := tailN_range s 1
  have r2 := tailN_range s 2
  have r3 := tailN_range s 3
  rw [decode_tests s h]
  show wardenref09_Read.f (k + 10) s = _
  unfold wardenref09_Read.f
  have hb := bt_nat s 0 h
  rw [show ((0 : Nat) : Int) = 0 from rfl] at hb
  rw [if_neg hne, if_pos (by omega), hb, wrap64_small (byteN s 0 0) (by omega) (by omega)]
  by_cases c0 : byteN s 0 0 < 128
  · rw [if_pos (by omega), if_pos c0]
  · rw [if_neg (by omega), if_neg c0]
    by_cases c1 : byteN s 0 0 / 32 = 6
    · rw [if_pos (by omega), if_pos c1, decide_eq_true (show (byteN s 0 0 : Int) < 224 by omega)]
      simp only [wardenref09_Read.j0, wardenref09_Read.j2, if_true]
      rw [wrap64_small _ (by omega) (by omega)]
      have s1 := read_step s (k + 7) 2 ((byteN s 0 0 : Int) - 192) 128 1 (by omega) (by omega) (by omega) (by omega)
      rw [show ((1 : Nat) : Int) = 1 from rfl] at s1
      rw [s1]
      by_cases t1 : tailN s 1 < 0
      · rw [if_pos t1, if_pos t1]
      · rw [if_neg t1, if_neg t1]
        have s2 := read_end s (k + 6) 2 (64 * ((byteN s 0 0 : Int) - 192) + tailN s 1) 128
        rw [show (((1 + 1 : Nat)) : Int) = 2 from rfl, s2]
        by_cases q : 64 * ((byteN s 0 0 : Int) - 192) + tailN s 1 < 128
        · rw [if_pos (.inl q), if_pos q]
        · rw [if_neg (by omega), if_neg q]
    · rw [if_neg c1]
      by_cases c2 : byteN s 0 0 / 16 = 14
      · rw [if_pos (by omega), if_pos c2, decide_eq_false (show ¬ (byteN s 0 0 : Int) < 224 by omega)]
        simp only [wardenref09_Read.j0, Bool.false_eq_true, if_false]
        rw [if_pos (by omega), decide_eq_true (show (byteN s 0 0 : Int) < 240 by omega)]
        simp only [wardenref09_Read.j1, wardenref09_Read.j2, if_true]
        rw [wrap64_small _ (by omega) (by omega)]
        have s1 := read_step s (k + 6) 3 ((byteN s 0 0 : Int) - 224) 2048 1 (by omega) (by omega) (by omega) (by omega)
        rw [show ((1 : Nat) : Int) = 1 from rfl] at s1
        rw [s1]
        by_cases t1 : tailN s 1 < 0
        · rw [if_pos t1, if_pos t1]
        · rw [if_neg t1, if_neg t1]
          have s2 := read_step s (k + 5) 3 (64 * ((byteN s 0 0 : Int) - 224) + tailN s 1) 2048 2 (by omega) (by omega) (by omega) (by omega)
          rw [s2]
          by_cases t2 : tailN s 2 < 0
          · rw [if_pos t2, if_pos t2]
          · rw [if_neg t2, if_neg t2]
            have s3 := read_end s (k + 4) 3 (64 * (64 * ((byteN s 0 0 : Int) - 224) + tailN s 1) + tailN s 2) 2048
            rw [show (((2 + 1 : Nat)) : Int) = 3 from rfl, s3]
            by_cases q : 64 * (64 * ((byteN s 0 0 : Int) - 224) + tailN s 1) + tailN s 2 < 2048 ∨ (64 * (64 * ((byteN s 0 0 : Int) - 224) + tailN s 1) + tailN s 2 ≥ 55296 ∧ 64 * (64 * ((byteN s 0 0 : Int) - 224) + tailN s 1) + tailN s 2 ≤ 57343)
            · rw [if_pos (by omega), if_pos q]
            · rw [if_neg (by omega), if_neg q]
      · rw [if_neg c2]
        by_cases c3 : byteN s 0 0 / 8 = 30
        · rw [if_pos (by omega), if_pos c3, decide_eq_false (show ¬ (byteN s 0 0 : Int) < 224 by omega)]
          simp only [wardenref09_Read.j0, Bool.false_eq_true, if_false]
          rw [if_pos (by omega), decide_eq_false (show ¬ (byteN s 0 0 : Int) < 240 by omega)]
          simp only [wardenref09_Read.j1, Bool.false_eq_true, if_false]
          rw [if_pos (by omega), if_pos (by omega)]
          simp only [wardenref09_Read.j2]
          rw [wrap64_small _ (by omega) (by omega)]
          have s1 := read_step s (k + 6) 4 ((byteN s 0 0 : Int) - 240) 65536 1 (by omega) (by omega) (by omega) (by omega)
          rw [show ((1 : Nat) : Int) = 1 from rfl] at s1
          rw [s1]
          by_cases t1 : tailN s 1 < 0
          · rw [if_pos t1, if_pos t1]
          · rw [if_neg t1, if_neg t1]
            have s2 := read_step s (k + 5) 4 (64 * ((byteN s 0 0 : Int) - 240) + tailN s 1) 65536 2 (by omega) (by omega) (by omega) (by omega)
            rw [s2]
            by_cases t2 : tailN s 2 < 0
            · rw [if_pos t2, if_pos t2]
            · rw [if_neg t2, if_neg t2]
              have s3 := read_step s (k + 4) 4 (64 * (64 * ((byteN s 0 0 : Int) - 240) + tailN s 1) + tailN s 2) 65536 3 (by omega) (by omega) (by omega) (by omega)
              rw [s3]
              by_cases t3 : tailN s 3 < 0
              · rw [if_pos t3, if_pos t3]
              · rw [if_neg t3, if_neg t3]
                have s4 := read_end s (k + 3) 4 (64 * (64 * (64 * ((byteN s 0 0 : Int) - 240) + tailN s 1) + tailN s 2) + tailN s 3) 65536
                rw [show (((3 + 1 : Nat)) : Int) = 4 from rfl, s4]
                by_cases q : 64 * (64 * (64 * ((byteN s 0 0 : Int) - 240) + tailN s 1) + tailN s 2) + tailN s 3 < 65536 ∨ 64 * (64 * (64 * ((byteN s 0 0 : Int) - 240) + tailN s 1) + tailN s 2) + tailN s 3 > 1114111
                · rw [if_pos (by omega), if_pos q]
                · rw [if_neg (by omega), if_neg q]
        · rw [if_neg c3]
          by_cases c4 : (byteN s 0 0 : Int) ≥ 192
          · rw [if_pos c4, decide_eq_false (show ¬ (byteN s 0 0 : Int) < 224 by omega)]
            simp only [wardenref09_Read.j0, Bool.false_eq_true, if_false]
            rw [if_pos (by omega), decide_eq_false (show ¬ (byteN s 0 0 : Int) < 240 by omega)]
            simp only [wardenref09_Read.j1, Bool.false_eq_true, if_false]
            rw [if_pos (by omega), if_neg (by omega)]
          · rw [if_neg c4]
            simp only [wardenref09_Read.j0, Bool.false_eq_true, if_false]
            rw [if_neg (by omega)]
            simp only [wardenref09_Read.j1, Bool.false_eq_true, if_false]
            rw [if_neg (by omega)]

/-- A text's rest reads as the text does from there on. -/
theorem decode_rest (s : ByteArray) (i : Nat) (h : i ≤ s.size) : Utf8.decode (s.extract i s.size) 0 = Utf8.decode s i := by
  have hz : (s.extract i s.size).size = s.size - i := by rw [ByteArray.size_extract]; omega
  have hg : ∀ k, (s.extract i s.size).get! (0 + k) = s.get! (i + k) := fun k => by
    by_cases hk : i + k < s.size
    · have g1 := get_extract s i k hk
      have g2 : (s.extract i s.size).data.toList[k]? = some ((s.extract i s.size).get! (0 + k)) := by
        have hk2 : 0 + k < (s.extract i s.size).data.size := by
          show 0 + k < (s.extract i s.size).size
          omega
        show _ = some ((s.extract i s.size).data[0 + k]!)
        rw [getElem!_pos (s.extract i s.size).data (0 + k) hk2, Array.getElem?_toList]
        rw [Array.getElem?_eq_getElem (by omega)]
        congr 1
        congr 1
        omega
      rw [g1] at g2
      exact (Option.some.inj g2).symm
    · show (s.extract i s.size).data[0 + k]! = s.data[i + k]!
      rw [getElem!_neg (s.extract i s.size).data (0 + k) (by show ¬ 0 + k < (s.extract i s.size).size; omega), getElem!_neg s.data (i + k) hk]
  have hs : ∀ k, (0 + k < (s.extract i s.size).size) = (i + k < s.size) := fun k => by
    apply propext
    rw [hz]
    omega
  simp only [Utf8.decode, hg, hs]

theorem readN_rest (s : ByteArray) (i : Nat) (h : i ≤ s.size) : readN (s.extract i s.size) = if badAt s i then (-1, 0) else (((Utf8.decode s i).1 : Int), ((Utf8.decode s i).2 : Int)) := by
  unfold readN badAt
  rw [decode_rest s i h]

theorem read_at (s : ByteArray) (i : Nat) (h : i < s.size) : Ev (fun k => wardenref09_Read.f k (s.extract ((i : Int)).toNat s.size)) (if badAt s i then (-1, 0) else (((Utf8.decode s i).1 : Int), ((Utf8.decode s i).2 : Int))) := by
  rw [← readN_rest s i (by omega)]
  exact read_eq _ (by rw [ByteArray.size_extract]; show 0 < min s.size s.size - ((i : Int)).toNat; omega)

theorem may_cons (c : Nat) (rs : List Nat) : mayR (c :: rs) = (decide (rs.length < 32) && isLetter (c : Int) && rs.all wordRune) := rfl

theorem may_prefix {cur rest : List Nat} (h : mayR (cur ++ rest) = true) (hc : cur ≠ []) : mayR cur = true := by
  cases cur with
  | nil => exact (hc rfl).elim
  | cons c cur =>
    rw [List.cons_append, may_cons] at h
    rw [may_cons]
    simp only [Bool.and_eq_true, decide_eq_true_eq, List.length_append, List.all_append] at h ⊢
    exact ⟨⟨by omega, h.1.2⟩, h.2.1⟩

theorem may_snoc {rs : List Nat} (h : mayR rs = true) (d : Nat) : mayR (rs ++ [d]) = (decide (rs.length < 32) && wordRune d) := by
  cases rs with
  | nil => cases h
  | cons c rs =>
    rw [may_cons] at h
    simp only [Bool.and_eq_true, decide_eq_true_eq] at h
    rw [List.cons_append, may_cons, h.1.2, List.all_append, h.2]
    simp

theorem bad_after {s t : ByteArray} (ht : BadFrom (s ++ t) s.size) : ∀ {rs : List Nat} {i : Nat}, Text s i rs → BadFrom (s ++ t) i := by
  intro rs
  induction rs with
  | nil =>
    intro i h
    rw [h.nil]
    exact ht
  | cons c rs ih =>
    intro i h
    obtain ⟨hi, hb, hd, hr, hv⟩ := h.cons
    have hl : s.data.toList.length = s.size := Array.length_toList
    have e : (s ++ t).data.toList.drop i = encL c ++ ((rs.flatMap encL) ++ t.data.toList) := by
      rw [ByteArray.data_append, Array.toList_append, List.drop_append_of_le_length (by omega), h.1, List.flatMap_cons, List.append_assoc]
    refine .step i (by rw [ByteArray.size_append]; omega) (not_bad _ i c _ hv e) ?_
    rw [decode_enc _ i c _ hv e]
    exact ih hr

theorem bad_ff (s : ByteArray) : BadFrom (s ++ (⟨#[255]⟩ : ByteArray)) s.size := by
  have hz : (s ++ (⟨#[255]⟩ : ByteArray)).size = s.size + 1 := by rw [ByteArray.size_append]; rfl
  have hl : s.data.toList.length = s.size := Array.length_toList
  have hb : byteN (s ++ (⟨#[255]⟩ : ByteArray)) s.size 0 = 255 := by
    have := (byteN_list (s ++ (⟨#[255]⟩ : ByteArray)) s.size 0 255 (by
      rw [ByteArray.data_append, Array.toList_append, ← hl, List.drop_left]
      rfl)).1
    exact this
  refine .here _ (by omega) ?_
  have hd := dec_of (s ++ (⟨#[255]⟩ : ByteArray)) s.size
  unfold badAt
  generalize (Utf8.decode (s ++ (⟨#[255]⟩ : ByteArray)) s.size).1 = c at hd ⊢
  generalize (Utf8.decode (s ++ (⟨#[255]⟩ : ByteArray)) s.size).2 = v at hd ⊢
  cases hd with
  | one h => omega
  | bad => rfl
  | two h => omega
  | three h => omega
  | four h => omega

theorem text_append {s t : ByteArray} {rs ts : List Nat} (h : Text s 0 rs) (g : Text t 0 ts) : Text (s ++ t) 0 (rs ++ ts) := by
  have e : s ++ t = bytesR (rs ++ ts) := by rw [of_text h, of_text g, bytesR_append]
  rw [e]
  refine text_bytesR fun c hc => ?_
  rcases List.mem_append.1 hc with hc | hc
  · exact h.2.1 c hc
  · exact g.2.1 c hc

theorem begins_end {s : ByteArray} (hs : s.size ≤ 2048) {rs : List Nat} (h : Text s 0 rs) (hm : mayR rs = true) (r : Int) (d : Nat) (hv : validN d = true) (hw : wordRune d = true) (hl : isLetter (d : Int) = (Int.tmod r 3 != 0)) :
    Ev (fun k => wardenlaw09_NameBegins.j2 k s r (rs.length : Int) (bytesR [d])) true := by
  have tx : ∀ e, validN e = true → Text (bytesR [e]) 0 [e] := fun e he => text_bytesR fun c hc => by
    rw [List.mem_singleton] at hc
    subst hc
    exact he
  have hz : ∀ e, (bytesR [e]).size ≤ 4 := fun e => by
    rw [bytesR_size]
    simp only [List.flatMap_cons, List.flatMap_nil, List.append_nil]
    unfold encL
    repeat' split
    all_goals simp
  have mf : ∀ x : ByteArray, x.size ≤ 10000 → name_May.f x = some (nameMay x) := fun x hx => if_pos (by omega)
  have ms : ∀ e, validN e = true → name_May.f (s ++ bytesR [e]) = some (decide (rs.length < 32) && wordRune e) := fun e he => by
    have := hz e
    rw [mf _ (by rw [ByteArray.size_append]; omega), may_text (text_append h (tx e he)), may_snoc hm]
  have b32 : (⟨#[32]⟩ : ByteArray) = bytesR [32] := by decide +kernel
  have b215 : (⟨#[195, 151]⟩ : ByteArray) = bytesR [215] := by decide +kernel
  have b45 : (⟨#[45]⟩ : ByteArray) = bytesR [45] := by decide +kernel
  have m32 := ms 32 (by decide)
  have m215 := ms 215 (by decide)
  have m45 := ms 45 (by decide)
  have w32 : wordRune 32 = false := by decide +kernel
  have w215 : wordRune 215 = false := by decide +kernel
  have w45 : wordRune 45 = false := by decide +kernel
  have mff : name_May.f (s ++ (⟨#[255]⟩ : ByteArray)) = some false := by
    rw [mf _ (by rw [ByteArray.size_append]; show s.size + 1 ≤ _; omega), may_bad (bad_after (bad_ff s) h)]
  have md : name_May.f (bytesR [d]) = some (isLetter (d : Int)) := by
    rw [mf _ (by have := hz d; omega), may_text (tx d hv), may_cons]
    simp
  have hzd := hz d
  refine ⟨1, fun k hk => ?_⟩
  obtain ⟨k, rfl⟩ : ∃ m, k = m + 1 := ⟨k - 1, by omega⟩
  simp only [wardenlaw09_NameBegins.j2]
  rw [if_pos (by omega), ms d hv, b32, b215, b45, m32, m215, m45, mff, md, w32, w215, w45, hw, hl, alive_true, if_pos (by omega), if_pos (by omega)]
  have e : (decide (rs.length < 32) == decide ((rs.length : Int) < 32)) = true := by
    rw [beq_iff_eq, decide_eq_decide]
    omega
  simp only [Option.bind_some, Bool.and_true, Bool.and_false, Bool.false_eq_true, if_false, beq_self_eq_true, if_true]
  rw [e]
  rfl

theorem begins_loop {s : ByteArray} (hs : s.size ≤ 2048) (r : Int) (hr : 0 ≤ r ∧ r < 65536) {all : List Nat} (hall : Text s 0 all) (hm : mayR all = true) : ∀ {rest cur : List Nat} {i : Nat}, all = cur ++ rest → Text s i rest → Span s 0 i cur →
    Ev (fun k => wardenlaw09_NameBegins.l0 k s r (cur.length : Int) (i : Int)) true := by
  have hlen : all.length ≤ s.size := by
    have : ∀ (rs : List Nat) (i : Nat), Text s i rs → rs.length + i ≤ s.size := by
      intro rs
      induction rs with
      | nil => intro i h; have := h.nil; simp; omega
      | cons c rs ih =>
        intro i h
        have := ih _ h.cons.2.2.2.1
        have hp := encL_pos c
        simp
        omega
    have := this all 0 hall
    omega
  intro rest
  induction rest with
  | nil =>
    intro cur i he h hsp
    rw [List.append_nil] at he
    subst he
    have hi := h.nil
    have h3 : Int.tmod r 3 = r % 3 := Int.tmod_eq_emod_of_nonneg hr.1
    have hd : Int.tdiv r 3 = r / 3 := Int.tdiv_eq_ediv_of_nonneg hr.1
    have hw : IntKind.u16.wrap (r / 3) = r / 3 := by
      show (r / 3) % 65536 = r / 3
      omega
    have h26 : Int.tmod (r / 3) 26 = r / 3 % 26 := Int.tmod_eq_emod_of_nonneg (by omega)
    have h30 : Int.tmod (r / 3) 30 = r / 3 % 30 := Int.tmod_eq_emod_of_nonneg (by omega)
    have base := fun d hv hw hl => begins_end hs hall hm r d hv hw hl
    obtain ⟨q, hq⟩ : ∃ q, r % 3 = q := ⟨_, rfl⟩
    rw [h3, hq] at base
    rcases (show q = 0 ∨ q = 1 ∨ q = 2 by omega) with rfl | rfl | rfl
    · refine Ev.step (f := fun k => wardenlaw09_NameBegins.j2 k s r (all.length : Int) (⟨#[48]⟩ : ByteArray)) (fun k => by
        simp only [wardenlaw09_NameBegins.l0]
        rw [if_neg (by omega), h3, hq]
        rfl) ?_
      rw [show (⟨#[48]⟩ : ByteArray) = bytesR [48] by decide +kernel]
      exact base 48 (by decide) (by decide +kernel) (by decide +kernel)
    · obtain ⟨k, hk⟩ : ∃ k : Nat, r / 3 % 26 = (k : Int) := ⟨(r / 3 % 26).toNat, by omega⟩
      refine Ev.step (f := fun n => wardenlaw09_NameBegins.j2 n s r (all.length : Int) (bytesR [97 + k])) (fun n => by
        simp only [wardenlaw09_NameBegins.l0]
        rw [if_neg (by omega), h3, hq, hd, hw, h26, hk, if_pos rfl]
        congr 1
        have e : ((97 + (k : Int) % 256) % 256) = ((97 + k : Nat) : Int) := by omega
        rw [e]
        apply ByteArray.ext
        apply Array.toList_inj.1
        rw [bytesR_list]
        simp only [List.flatMap_cons, List.flatMap_nil, List.append_nil]
        rw [show encL (97 + k) = [UInt8.ofNat (97 + k)] by unfold encL; rw [if_pos (by omega)]]
        rfl) ?_
      have hlet : isLetter ((97 + k : Nat) : Int) = true := by unfold isLetter letterTest; simp; omega
      exact base (97 + k) (by unfold validN; simp; omega) (by unfold wordRune; rw [hlet]; rfl) (by rw [hlet]; rfl)
    · obtain ⟨k, hk⟩ : ∃ k : Nat, r / 3 % 30 = (k : Int) := ⟨(r / 3 % 30).toNat, by omega⟩
      refine Ev.step (f := fun n => wardenlaw09_NameBegins.j2 n s r (all.length : Int) (bytesR [216 + k])) (fun n => by
        simp only [wardenlaw09_NameBegins.l0]
        rw [if_neg (by omega), h3, hq, hd, hw, h30, hk, if_neg (by decide), if_pos rfl]
        congr 1
        have e : ((152 + (k : Int) % 256) % 256) = ((152 + k : Nat) : Int) := by omega
        rw [e]
        apply ByteArray.ext
        apply Array.toList_inj.1
        rw [bytesR_list]
        simp only [List.flatMap_cons, List.flatMap_nil, List.append_nil]
        rw [show encL (216 + k) = [UInt8.ofNat 195, UInt8.ofNat (152 + k)] by unfold encL; rw [if_neg (by omega), if_pos (by omega), show 192 + (216 + k) / 64 = 195 by omega, show 128 + (216 + k) % 64 = 152 + k by omega]]
        rfl) ?_
      have hlet : isLetter ((216 + k : Nat) : Int) = true := by unfold isLetter letterTest Lib.validRune; simp; omega
      exact base (216 + k) (by unfold validN; simp; omega) (by unfold wordRune; rw [hlet]; rfl) (by rw [hlet]; rfl)
  | cons c rest ih =>
    intro cur i he h hsp
    obtain ⟨hi, hb, hd, hr2, hv⟩ := h.cons
    have hp := encL_pos c
    have hle := hr2.2.2
    have hsp2 := hsp.snoc h
    have hall2 : all = (cur ++ [c]) ++ rest := by rw [he]; simp
    have hcl : cur.length < all.length := by rw [he]; simp
    have hvc : ∀ d ∈ cur ++ [c], validN d = true := fun d hd => hall.2.1 d (by rw [hall2]; exact List.mem_append.2 (.inl hd))
    have ht : Text (bytesR (cur ++ [c])) 0 (cur ++ [c]) := text_bytesR hvc
    have hm2 : mayR (cur ++ [c]) = true := by
      rw [hall2] at hm
      exact may_prefix hm (by simp)
    have hex : s.extract 0 ((i + (encL c).length : Nat) : Int).toNat = bytesR (cur ++ [c]) := hsp2.extract
    have hbz : (bytesR (cur ++ [c])).size ≤ s.size := by
      rw [← hex, ByteArray.size_extract]
      omega
    have e1 : name_May.f (bytesR (cur ++ [c])) = some true := by rw [← hm2, ← may_text ht]; exact if_pos (by omega)
    have e2 : name_Runes.f (bytesR (cur ++ [c])) = some ((cur.length + 1 : Nat) : Int) := by
      have := runes_text ht
      rw [List.length_append, List.length_singleton] at this
      rw [← this]
      exact if_pos (by omega)
    refine Ev.step (f := fun k => (wardenref09_Read.f k (s.extract ((i : Int)).toNat s.size)).bind fun bt120 => (if bt120.2 < 1 then (some false) else (if 0 ≤ (wrap64 ((i : Int) + bt120.2)) then (if (wrap64 ((i : Int) + bt120.2)) ≤ (s.size : Int) then ((name_May.f (s.extract 0 ((wrap64 ((i : Int) + bt120.2)) : Int).toNat)).bind fun t122 => (if t122 = true then ((name_Runes.f (s.extract 0 ((wrap64 ((i : Int) + bt120.2)) : Int).toNat)).bind fun t123 => (if t123 = (wrap64 ((cur.length : Int) + 1)) then (wardenlaw09_NameBegins.l0 k s r (wrap64 ((cur.length : Int) + 1)) (wrap64 ((i : Int) + bt120.2))) else (some false))) else (some false))) else (none)) else (none)))) (fun k => by
      simp only [wardenlaw09_NameBegins.l0]
      rw [if_pos (by omega), if_pos (by omega), if_pos (by omega)]) ?_
    refine Ev.bind (read_at s i hi) ?_
    rw [hb, hd]
    simp only [Bool.false_eq_true, if_false]
    have hw : wrap64 ((i : Int) + ((encL c).length : Int)) = ((i + (encL c).length : Nat) : Int) := by
      rw [wrap64_small _ (by omega) (by omega)]
      omega
    have hw2 : wrap64 ((cur.length : Int) + 1) = ((cur.length + 1 : Nat) : Int) := by
      rw [wrap64_small _ (by omega) (by omega)]
      omega
    have hnext := ih hall2 hr2 hsp2
    rw [List.length_append, List.length_singleton] at hnext
    refine Ev.congr (fun k => ?_) hnext
    rw [hw, hw2, hex, e1, e2]
    rw [if_neg (by omega), if_pos (by omega), if_pos (by omega)]
    simp only [Option.bind_some, if_true]

theorem NameBegins : wardenlaw09_NameBegins.Pure := by
  intro s r hs hr
  have hr := wf_u16 hr
  have yes : Ev (fun k => wardenlaw09_NameBegins.j0 k s r true) true := by
    refine Ev.step (f := fun _ => some true) (fun k => ?_) (Ev.now _)
    simp only [wardenlaw09_NameBegins.j0, if_true]
    rw [alive_true]
    rfl
  refine Ev.rounds (g := fun k => _) ?_
  by_cases h : (s.size : Int) > 2048
  · refine Ev.congr (fun k => ?_) yes
    unfold wardenlaw09_NameBegins.f
    rw [if_pos h]
  · have hm : name_May.f s = some (nameMay s) := if_pos (by omega)
    refine Ev.congr (f := fun k => wardenlaw09_NameBegins.j0 k s r (!nameMay s)) (fun k => ?_) ?_
    · unfold wardenlaw09_NameBegins.f
      rw [if_neg h, hm]
      rfl
    · cases hq : nameMay s with
      | false => exact yes
      | true =>
        refine Ev.step (f := fun k => wardenlaw09_NameBegins.l0 k s r 0 0) (fun k => by simp only [wardenlaw09_NameBegins.j0, Bool.not_true, Bool.false_eq_true, if_false]) ?_
        rcases text_or s s.size 0 rfl (by omega) with ⟨rs, ht⟩ | hb
        · rw [may_text ht] at hq
          exact begins_loop (by omega) r hr ht hq (cur := []) (i := 0) (by simp) ht ⟨by omega, by omega, by simp⟩
        · rw [may_bad hb] at hq
          cases hq

end Go.Proofs.Ytmoememioelddaa.Pure
