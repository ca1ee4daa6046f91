/- Types: lemmas on what the functions that the laws reach answer. No conditions of their own beyond those that each theorem states. -/
import Derived.Lib.FieldsP
import Derived.Lib.Small
import Derived.Lib.Bytealg
import Derived.Lib.Strings
import Derived.Laws.RangeAny
import Derived.RowKit
/-! Names, as the program reads them: runes of a text, one by one. -/
namespace Go.Proofs.Ytkflofjcjolehaa
open Go.RowKit

/-- The tests of name.Letter. -/
def letterTest (r : Int) : Nat → Bool
  | 0 => decide (97 ≤ r) && decide (r ≤ 122)
  | 1 => decide (65 ≤ r) && decide (r ≤ 90)
  | 2 => r == 95
  | _ => decide (192 ≤ r) && r != 215 && r != 247 && Lib.validRune r

def isLetter (r : Int) : Bool := letterTest r 0 || letterTest r 1 || letterTest r 2 || letterTest r 3
def isDigit (r : Int) : Bool := decide (48 ≤ r) && decide (r ≤ 57)

theorem isLetter_of {r : Int} {k : Nat} (hk : k < 4) (h : letterTest r k = true) : isLetter r = true := by
  unfold isLetter
  rcases (show k = 0 ∨ k = 1 ∨ k = 2 ∨ k = 3 by omega) with rfl | rfl | rfl | rfl <;> rw [h] <;> simp

theorem isLetter_none {r : Int} (h : ∀ j, j < 4 → letterTest r j = false) : isLetter r = false := by
  unfold isLetter
  rw [h 0 (by omega), h 1 (by omega), h 2 (by omega), h 3 (by omega)]
  rfl

/-- No rune stands at i. -/
def badAt (s : ByteArray) (i : Nat) : Bool := (Utf8.decode s i).1 == 65533 && (Utf8.decode s i).2 == 1

/-- How many runes stand in s from pos on, with acc ahead; -1: some bytes are none. -/
def cntAt (s : ByteArray) : Nat → Nat → Int → Int
  | 0, _, acc => acc
  | f + 1, pos, acc => if pos < s.size then (if badAt s pos then -1 else cntAt s f (pos + (Utf8.decode s pos).2) (acc + 1)) else acc

def runesOf (s : ByteArray) : Int := cntAt s s.size 0 0

/-- Whether all runes from pos on may stand in a name. -/
def restMay (s : ByteArray) : Nat → Nat → Bool
  | 0, _ => true
  | f + 1, pos => if pos < s.size then (if isLetter (Utf8.decode s pos).1 || (pos != 0 && isDigit (Utf8.decode s pos).1) then restMay s f (pos + (Utf8.decode s pos).2) else false) else true

def nameMay (s : ByteArray) : Bool := if runesOf s < 1 ∨ 32 < runesOf s then false else restMay s s.size 0

def nameCompare (a b : ByteArray) : Int :=
  if decide (0 ≤ runesOf a) = decide (0 ≤ runesOf b) then Lib.compareBytes a.data.toList b.data.toList else if 0 ≤ runesOf a then -1 else 1

def noWord (r : Nat) : Bool := !isLetter r && !isDigit r

def nameWords (s : ByteArray) : List ByteArray := if runesOf s < 0 then [] else (Lib.goFieldsP noWord s).filter nameMay

theorem width_pos (s : ByteArray) (pos : Nat) (h : pos < s.size) : 1 ≤ (Utf8.decode s pos).2 := by
  by_cases ha : (s[pos]'h).toNat < 128
  · rw [decode_ascii s pos h ha]
    exact Nat.le_refl _
  · exact (decode_high s pos h (by omega)).2

theorem cntAt_end (s : ByteArray) (f pos : Nat) (acc : Int) (h : ¬ pos < s.size) : cntAt s f pos acc = acc := by
  cases f with
  | zero => rfl
  | succ f => simp [cntAt, h]

theorem restMay_end (s : ByteArray) (f pos : Nat) (h : ¬ pos < s.size) : restMay s f pos = true := by
  cases f with
  | zero => rfl
  | succ f => simp [restMay, h]

theorem get_extract (s : ByteArray) (i : Nat) (k : Nat) (h : i + k < s.size) : (s.extract i s.size).data.toList[k]? = some (s.get! (i + k)) := by
  have e : s.get! (i + k) = s[i + k]'h := by
    show s.data[i + k]! = _
    rw [getElem!_pos s.data (i + k) h]
    rfl
  rw [e, ByteArray.data_extract, Array.toList_extract]
  rw [List.extract_eq_take_drop, List.getElem?_take, if_pos (by omega), List.getElem?_drop]
  rw [Array.getElem?_toList, Array.getElem?_eq_getElem h]
  rfl

/-- The byte at i + k, as a number. -/
def byteN (s : ByteArray) (i k : Nat) : Nat := (s.get! (i + k)).toNat
theorem byteN_lt (s : ByteArray) (i k : Nat) : byteN s i k < 256 := (s.get! (i + k)).toNat_lt

/-- The ways in which a rune stands in a text. -/
inductive Dec (s : ByteArray) (i : Nat) : Nat → Nat → Prop
  | one : byteN s i 0 < 128 → Dec s i (byteN s i 0) 1
  | bad : Dec s i 65533 1
  | two : byteN s i 0 / 32 = 6 → i + 1 < s.size → byteN s i 1 / 64 = 2 → 128 ≤ (byteN s i 0 % 32) * 64 + byteN s i 1 % 64 → Dec s i ((byteN s i 0 % 32) * 64 + byteN s i 1 % 64) 2
  | three : byteN s i 0 / 16 = 14 → i + 1 < s.size → byteN s i 1 / 64 = 2 → i + 2 < s.size → byteN s i 2 / 64 = 2 → 2048 ≤ (byteN s i 0 % 16) * 4096 + (byteN s i 1 % 64) * 64 + byteN s i 2 % 64 →
      Utf8.valid (((byteN s i 0 % 16) * 4096 + (byteN s i 1 % 64) * 64 + byteN s i 2 % 64 : Nat) : Int) = true → Dec s i ((byteN s i 0 % 16) * 4096 + (byteN s i 1 % 64) * 64 + byteN s i 2 % 64) 3
  | four : byteN s i 0 / 8 = 30 → i + 1 < s.size → byteN s i 1 / 64 = 2 → i + 2 < s.size → byteN s i 2 / 64 = 2 → i + 3 < s.size → byteN s i 3 / 64 = 2 → 65536 ≤ (byteN s i 0 % 8) * 262144 + (byteN s i 1 % 64) * 4096 + (byteN s i 2 % 64) * 64 + byteN s i 3 % 64 →
      Utf8.valid (((byteN s i 0 % 8) * 262144 + (byteN s i 1 % 64) * 4096 + (byteN s i 2 % 64) * 64 + byteN s i 3 % 64 : Nat) : Int) = true → Dec s i ((byteN s i 0 % 8) * 262144 + (byteN s i 1 % 64) * 4096 + (byteN s i 2 % 64) * 64 + byteN s i 3 % 64) 4

theorem dec_of (s : ByteArray) (i : Nat) : Dec s i (Utf8.decode s i).1 (Utf8.decode s i).2 := by
  simp only [Utf8.decode]
  split
  · exact .one (by assumption)
  · split
    · rename_i h
      simp only [Bool.and_eq_true, beq_iff_eq, decide_eq_true_eq] at h
      split
      · exact .two h.1 h.2.1 h.2.2 (by assumption)
      · exact .bad
    · split
      · rename_i h
        simp only [Bool.and_eq_true, beq_iff_eq, decide_eq_true_eq] at h
        split
        · rename_i g
          simp only [Bool.and_eq_true, decide_eq_true_eq] at g
          exact .three h.1.1 h.1.2.1 h.1.2.2 h.2.1 h.2.2 g.1 g.2
        · exact .bad
      · split
        · rename_i h
          simp only [Bool.and_eq_true, beq_iff_eq, decide_eq_true_eq] at h
          split
          · rename_i g
            simp only [Bool.and_eq_true, decide_eq_true_eq] at g
            exact .four h.1.1.1 h.1.1.2.1 h.1.1.2.2 h.1.2.1 h.1.2.2 h.2.1 h.2.2 g.1 g.2
          · exact .bad
        · exact .bad

theorem width_le (s : ByteArray) (i : Nat) : (Utf8.decode s i).2 ≤ 4 := by
  have h := dec_of s i
  generalize (Utf8.decode s i).1 = r at h
  generalize (Utf8.decode s i).2 = v at h
  cases h <;> omega

theorem cntAt_step (s : ByteArray) (f pos : Nat) (acc : Int) (h : pos < s.size) : cntAt s (f + 1) pos acc = if badAt s pos then -1 else cntAt s f (pos + (Utf8.decode s pos).2) (acc + 1) := by
  simp only [cntAt]
  rw [if_pos h]

/-- U+FFFD stands at i just if its three bytes do. -/
theorem prefix_bad (s : ByteArray) (i : Nat) (h : i < s.size) (hr : (Utf8.decode s i).1 = 65533) :
    Lib.hasPrefix (s.extract i s.size).data.toList [239, 191, 189] = !badAt s i := by
  have hlen : (s.extract i s.size).data.toList.length = s.size - i := by
    rw [ByteArray.data_extract, Array.toList_extract, List.extract_eq_take_drop, List.length_take, List.length_drop]
    show min (s.size - i) (s.data.toList.length - i) = _
    rw [show s.data.toList.length = s.size from Array.length_toList]
    omega
  have hp : Lib.hasPrefix (s.extract i s.size).data.toList [239, 191, 189] = decide (i + 2 < s.size ∧ s.get! (i + 0) = 239 ∧ s.get! (i + 1) = 191 ∧ s.get! (i + 2) = 189) := by
    rw [Bool.eq_iff_iff, decide_eq_true_iff]
    unfold Lib.hasPrefix
    rw [List.isPrefixOf_iff_prefix]
    constructor
    · rintro ⟨t, ht⟩
      have hl : i + 2 < s.size := by
        have := congrArg List.length ht
        rw [hlen] at this
        simp at this
        omega
      have g0 := get_extract s i 0 (by omega)
      have g1 := get_extract s i 1 (by omega)
      have g2 := get_extract s i 2 (by omega)
      rw [← ht] at g0 g1 g2
      simp at g0 g1 g2
      exact ⟨hl, by simpa using g0.symm, g1.symm, g2.symm⟩
    · rintro ⟨hl, e0, e1, e2⟩
      have g0 := get_extract s i 0 (by omega)
      have g1 := get_extract s i 1 (by omega)
      have g2 := get_extract s i 2 (by omega)
      rw [e0] at g0
      rw [e1] at g1
      rw [e2] at g2
      generalize (s.extract i s.size).data.toList = l at g0 g1 g2
      match l, g0, g1, g2 with
      | a :: b :: c :: l, g0, g1, g2 =>
        simp at g0 g1 g2
        subst g0 g1 g2
        exact ⟨l, rfl⟩
  rw [hp]
  have eqv : ∀ (k : Nat) (c : UInt8), (s.get! (i + k) = c) ↔ byteN s i k = c.toNat := fun k c => ⟨fun h => by unfold byteN; rw [h], fun h => UInt8.toNat_inj.1 h⟩
  unfold badAt
  rw [hr, Bool.eq_iff_iff, decide_eq_true_iff, eqv 0, eqv 1, eqv 2]
  show (_ ∧ _ = 239 ∧ _ = 191 ∧ _ = 189) ↔ _
  have hd := dec_of s i
  rw [hr] at hd
  have b0 := byteN_lt s i 0
  have b1 := byteN_lt s i 1
  have b2 := byteN_lt s i 2
  have b3 := byteN_lt s i 3
  constructor
  · rintro ⟨hl, e0, e1, e2⟩
    have e : Utf8.decode s i = (65533, 3) := by
      unfold byteN at e0 e1 e2
      simp only [Utf8.decode, e0, e1, e2]
      rw [if_neg (by decide), if_neg (by simp), if_pos (by simp; omega), if_pos (by decide)]
    rw [e]
    rfl
  · intro hw
    generalize hq : (Utf8.decode s i).1 = q at hr
    generalize hv : (Utf8.decode s i).2 = v at hw hd
    generalize hz : 65533 = z at hd
    cases hd with
    | one h => omega
    | bad => simp at hw
    | two h1 h2 h3 h4 => omega
    | three h1 h2 h3 h4 h5 h6 h7 => exact ⟨h4, by omega, by omega, by omega⟩
    | four h1 h2 h3 h4 h5 h6 h7 h8 h9 => omega

end Go.Proofs.Ytkflofjcjolehaa
