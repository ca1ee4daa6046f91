/- Types: lemmas on what the functions that the laws reach answer. No conditions of their own beyond those that each theorem states. -/
import Derived.Test.YtkflofjcjolehaaBig9
/-! Valid text: a row of runes, each in its bytes. -/
namespace Go.Proofs.Ytkflofjcjolehaa
open Go.RowKit

def validN (c : Nat) : Bool := decide (c < 55296) || (decide (57344 ≤ c) && decide (c ≤ 1114111))

/-- The bytes of a rune. -/
def encL (c : Nat) : List UInt8 :=
  if c < 128 then [UInt8.ofNat c]
  else if c < 2048 then [UInt8.ofNat (192 + c / 64), UInt8.ofNat (128 + c % 64)]
  else if c < 65536 then [UInt8.ofNat (224 + c / 4096), UInt8.ofNat (128 + c / 64 % 64), UInt8.ofNat (128 + c % 64)]
  else [UInt8.ofNat (240 + c / 262144), UInt8.ofNat (128 + c / 4096 % 64), UInt8.ofNat (128 + c / 64 % 64), UInt8.ofNat (128 + c % 64)]

theorem encL_pos (c : Nat) : 1 ≤ (encL c).length := by
  unfold encL
  repeat' split
  all_goals simp

theorem ofNat_toNat {n : Nat} (h : n < 256) : (UInt8.ofNat n).toNat = n := by
  simp
  omega

theorem toNat_eq {b : UInt8} {n : Nat} (h : b.toNat = n) : b = UInt8.ofNat n := by
  subst h
  simp

/-- The byte at i + k, out of the list. -/
theorem byteN_list (s : ByteArray) (i k : Nat) (u : UInt8) (h : (s.data.toList.drop i)[k]? = some u) : byteN s i k = u.toNat ∧ i + k < s.size := by
  rw [List.getElem?_drop] at h
  have hl : i + k < s.data.toList.length := (List.getElem?_eq_some_iff.1 h).1
  have hs : i + k < s.size := by simpa using hl
  refine ⟨?_, hs⟩
  unfold byteN
  have e : s.get! (i + k) = s.data[i + k]'(by simpa using hl) := by
    show s.data[i + k]! = _
    rw [getElem!_pos s.data (i + k) (by simpa using hl)]
  rw [e]
  rw [Array.getElem?_toList] at h
  rw [(Array.getElem?_eq_some_iff.1 h).2]

theorem list_byteN (s : ByteArray) (i k : Nat) (h : i + k < s.size) : (s.data.toList.drop i)[k]? = some (UInt8.ofNat (byteN s i k)) := by
  have hl : i + k < s.data.size := h
  obtain ⟨u, hu⟩ : ∃ u, (s.data.toList.drop i)[k]? = some u := by
    rw [List.getElem?_drop, Array.getElem?_toList]
    exact ⟨_, Array.getElem?_eq_getElem hl⟩
  rw [hu, (byteN_list s i k u hu).1]
  simp

/-- Where a rune's bytes stand, the rune is read. -/
theorem decode_enc (s : ByteArray) (i c : Nat) (m : List UInt8) (hv : validN c = true) (h : s.data.toList.drop i = encL c ++ m) : Utf8.decode s i = (c, (encL c).length) := by
  unfold validN at hv
  simp only [Bool.or_eq_true, Bool.and_eq_true, decide_eq_true_eq] at hv
  have at_ : ∀ k u, (encL c)[k]? = some u → (s.get! (i + k)).toNat = u.toNat ∧ i + k < s.size := fun k u hu =>
    byteN_list s i k u (by rw [h, List.getElem?_append_left (List.getElem?_eq_some_iff.1 hu).1]; exact hu)
  by_cases c1 : c < 128
  · have e : encL c = [UInt8.ofNat c] := by unfold encL; rw [if_pos c1]
    rw [e] at at_
    have g0 := at_ 0 _ rfl
    rw [ofNat_toNat (by omega)] at g0
    simp only [Utf8.decode, g0.1]
    rw [if_pos c1, e]
    rfl
  · by_cases c2 : c < 2048
    · have e : encL c = [UInt8.ofNat (192 + c / 64), UInt8.ofNat (128 + c % 64)] := by unfold encL; rw [if_neg c1, if_pos c2]
      rw [e] at at_
      have g0 := at_ 0 _ rfl
      have g1 := at_ 1 _ rfl
      rw [ofNat_toNat (by omega)] at g0 g1
      simp only [Utf8.decode, g0.1, g1.1]
      rw [if_neg (by omega), if_pos (by simp; omega), if_pos (by omega), e]
      show (_, 2) = (_, 2)
      congr 1
      omega
    · by_cases c3 : c < 65536
      · have e : encL c = [UInt8.ofNat (224 + c / 4096), UInt8.ofNat (128 + c / 64 % 64), UInt8.ofNat (128 + c % 64)] := by unfold encL; rw [if_neg c1, if_neg c2, if_pos c3]
        rw [e] at at_
        have g0 := at_ 0 _ rfl
        have g1 := at_ 1 _ rfl
        have g2 := at_ 2 _ rfl
        rw [ofNat_toNat (by omega)] at g0 g1 g2
        simp only [Utf8.decode, g0.1, g1.1, g2.1]
        have hc : (224 + c / 4096) % 16 * 4096 + (128 + c / 64 % 64) % 64 * 64 + (128 + c % 64) % 64 = c := by omega
        rw [if_neg (by omega), if_neg (by simp; omega), if_pos (by simp; omega), hc, if_pos (by simp [Utf8.valid]; omega), e]
        rfl
      · have e : encL c = [UInt8.ofNat (240 + c / 262144), UInt8.ofNat (128 + c / 4096 % 64), UInt8.ofNat (128 + c / 64 % 64), UInt8.ofNat (128 + c % 64)] := by unfold encL; rw [if_neg c1, if_neg c2, if_neg c3]
        rw [e] at at_
        have g0 := at_ 0 _ rfl
        have g1 := at_ 1 _ rfl
        have g2 := at_ 2 _ rfl
        have g3 := at_ 3 _ rfl
        rw [ofNat_toNat (by omega)] at g0 g1 g2 g3
        simp only [Utf8.decode, g0.1, g1.1, g2.1, g3.1]
        have hc : (240 + c / 262144) % 8 * 262144 + (128 + c / 4096 % 64) % 64 * 4096 + (128 + c / 64 % 64) % 64 * 64 + (128 + c % 64) % 64 = c := by omega
        rw [if_neg (by omega), if_neg (by simp; omega), if_neg (by simp; omega), if_pos (by simp; omega), hc, if_pos (by simp [Utf8.valid]; omega), e]
        rfl

theorem not_bad (s : ByteArray) (i c : Nat) (m : List UInt8) (hv : validN c = true) (h : s.data.toList.drop i = encL c ++ m) : badAt s i = false := by
  unfold badAt
  rw [decode_enc s i c m hv h]
  by_cases e : c = 65533
  · subst e
    rfl
  · simp [e]

theorem drop_cons4 {l : List UInt8} {i : Nat} {a : UInt8} (h : (l.drop i)[0]? = some a) : l.drop i = a :: l.drop (i + 1) := by
  rw [List.getElem?_drop] at h
  have hl := (List.getElem?_eq_some_iff.1 h).1
  have e := (List.getElem?_eq_some_iff.1 h).2
  rw [List.drop_eq_getElem_cons (by simpa using hl)]
  congr 1

/-- Where a rune is read, its bytes stand. -/
theorem enc_decode (s : ByteArray) (i : Nat) (hi : i < s.size) (h : badAt s i = false) :
    validN (Utf8.decode s i).1 = true ∧ (Utf8.decode s i).2 = (encL (Utf8.decode s i).1).length ∧ s.data.toList.drop i = encL (Utf8.decode s i).1 ++ s.data.toList.drop (i + (Utf8.decode s i).2) := by
  have hd := dec_of s i
  unfold badAt at h
  generalize (Utf8.decode s i).1 = c at h hd
  generalize (Utf8.decode s i).2 = v at h hd
  have b0 := byteN_lt s i 0
  have b1 := byteN_lt s i 1
  have b2 := byteN_lt s i 2
  have b3 := byteN_lt s i 3
  have nx : ∀ k, i + k < s.size → s.data.toList.drop (i + k) = UInt8.ofNat (byteN s i k) :: s.data.toList.drop (i + k + 1) := fun k hk => by
    have g := list_byteN s i k hk
    rw [List.getElem?_drop] at g
    exact drop_cons4 (by rw [List.getElem?_drop]; exact g)
  have n0 := nx 0 hi
  cases hd with
  | one g =>
    have e : encL (byteN s i 0) = [UInt8.ofNat (byteN s i 0)] := by unfold encL; rw [if_pos g]
    refine ⟨by unfold validN; simp; omega, by rw [e]; rfl, ?_⟩
    rw [e]
    exact n0
  | bad => simp at h
  | two g0 l1 g1 hm =>
    obtain ⟨c, hc⟩ : ∃ c, byteN s i 0 % 32 * 64 + byteN s i 1 % 64 = c := ⟨_, rfl⟩
    rw [hc]
    have e : encL c = [UInt8.ofNat (byteN s i 0), UInt8.ofNat (byteN s i 1)] := by
      unfold encL
      rw [if_neg (by omega), if_pos (by omega), show 192 + c / 64 = byteN s i 0 by omega, show 128 + c % 64 = byteN s i 1 by omega]
    refine ⟨by unfold validN; simp; omega, by rw [e]; rfl, ?_⟩
    rw [e]
    refine n0.trans ?_
    show _ :: s.data.toList.drop (i + 1) = _ :: ([_] ++ _)
    rw [nx 1 l1]
    rfl
  | three g0 l1 g1 l2 g2 hm hv =>
    obtain ⟨c, hc⟩ : ∃ c, byteN s i 0 % 16 * 4096 + byteN s i 1 % 64 * 64 + byteN s i 2 % 64 = c := ⟨_, rfl⟩
    rw [hc] at hv ⊢
    have e : encL c = [UInt8.ofNat (byteN s i 0), UInt8.ofNat (byteN s i 1), UInt8.ofNat (byteN s i 2)] := by
      unfold encL
      rw [if_neg (by omega), if_neg (by omega), if_pos (by omega), show 224 + c / 4096 = byteN s i 0 by omega, show 128 + c / 64 % 64 = byteN s i 1 by omega, show 128 + c % 64 = byteN s i 2 by omega]
    refine ⟨by simp [Utf8.valid] at hv; unfold validN; simp; omega, by rw [e]; rfl, ?_⟩
    rw [e]
    refine n0.trans ?_
    show _ :: s.data.toList.drop (i + 1) = _ :: ([_, _] ++ _)
    rw [nx 1 l1]
    show _ :: _ :: s.data.toList.drop (i + 2) = _
    rw [nx 2 l2]
    rfl
  | four g0 l1 g1 l2 g2 l3 g3 hm hv =>
    obtain ⟨c, hc⟩ : ∃ c, byteN s i 0 % 8 * 262144 + byteN s i 1 % 64 * 4096 + byteN s i 2 % 64 * 64 + byteN s i 3 % 64 = c := ⟨_, rfl⟩
    rw [hc] at hv ⊢
    have e : encL c = [UInt8.ofNat (byteN s i 0), UInt8.ofNat (byteN s i 1), UInt8.ofNat (byteN s i 2), UInt8.ofNat (byteN s i 3)] := by
      unfold encL
      rw [if_neg (by omega), if_neg (by omega), if_neg (by omega), show 240 + c / 262144 = byteN s i 0 by omega, show 128 + c / 4096 % 64 = byteN s i 1 by omega, show 128 + c / 64 % 64 = byteN s i 2 by omega, show 128 + c % 64 = byteN s i 3 by omega]
    refine ⟨by simp [Utf8.valid] at hv; unfold validN; simp; omega, by rw [e]; rfl, ?_⟩
    rw [e]
    refine n0.trans ?_
    show _ :: s.data.toList.drop (i + 1) = _ :: ([_, _, _] ++ _)
    rw [nx 1 l1]
    show _ :: _ :: s.data.toList.drop (i + 2) = _
    rw [nx 2 l2]
    show _ :: _ :: _ :: s.data.toList.drop (i + 3) = _
    rw [nx 3 l3]
    rfl

/-- From i on, s is the runes rs. -/
def Text (s : ByteArray) (i : Nat) (rs : List Nat) : Prop := s.data.toList.drop i = rs.flatMap encL ∧ (∀ c ∈ rs, validN c = true) ∧ i ≤ s.size

/-- From i on, there are bytes in s that are no rune. -/
inductive BadFrom (s : ByteArray) : Nat → Prop
  | here (i : Nat) : i < s.size → badAt s i = true → BadFrom s i
  | step (i : Nat) : i < s.size → badAt s i = false → BadFrom s (i + (Utf8.decode s i).2) → BadFrom s i

theorem Text.nil {s : ByteArray} {i : Nat} (h : Text s i []) : i = s.size := by
  have := congrArg List.length h.1
  simp at this
  have := h.2.2
  omega

theorem Text.cons {s : ByteArray} {i c : Nat} {rs : List Nat} (h : Text s i (c :: rs)) : i < s.size ∧ badAt s i = false ∧ Utf8.decode s i = (c, (encL c).length) ∧ Text s (i + (encL c).length) rs ∧ validN c = true := by
  obtain ⟨h1, h2, h3⟩ := h
  rw [List.flatMap_cons] at h1
  have hv := h2 c (by simp)
  have hl := congrArg List.length h1
  simp only [List.length_drop, List.length_append] at hl
  have hp := encL_pos c
  have hs : s.data.toList.length = s.size := Array.length_toList
  refine ⟨by omega, not_bad s i c _ hv h1, decode_enc s i c _ hv h1, ⟨?_, fun d hd => h2 d (by simp [hd]), by omega⟩, hv⟩
  rw [← List.drop_drop, h1, List.drop_left]

theorem text_or (s : ByteArray) : ∀ n i, s.size - i = n → i ≤ s.size → (∃ rs, Text s i rs) ∨ BadFrom s i := by
  intro n
  induction n using Nat.strongRecOn with
  | _ n ih =>
    intro i hn hi
    rcases Nat.lt_or_ge i s.size with hlt | hge
    · cases hb : badAt s i with
      | true => exact .inr (.here i hlt hb)
      | false =>
        obtain ⟨h1, h2, h3⟩ := enc_decode s i hlt hb
        have hp := encL_pos (Utf8.decode s i).1
        have hl := congrArg List.length h3
        simp only [List.length_drop, List.length_append] at hl
        have hs : s.data.toList.length = s.size := Array.length_toList
        rcases ih (s.size - (i + (Utf8.decode s i).2)) (by omega) (i + (Utf8.decode s i).2) rfl (by omega) with ⟨rs, hr⟩ | hr
        · left
          refine ⟨(Utf8.decode s i).1 :: rs, ?_, ?_, hi⟩
          · rw [List.flatMap_cons, h3, hr.1]
          · intro c hc
            rcases List.mem_cons.1 hc with rfl | hc
            · exact h1
            · exact hr.2.1 c hc
        · exact .inr (.step i hlt hb hr)
    · obtain rfl : i = s.size := by omega
      exact .inl ⟨[], by simp [← ByteArray.size_data], by simp, Nat.le_refl _⟩

theorem BadFrom.lt {s : ByteArray} {i : Nat} (h : BadFrom s i) : i < s.size := by
  cases h <;> assumption

/-- One text has one row of runes. -/
theorem Text.uniq {s : ByteArray} : ∀ {rs ts : List Nat} {i : Nat}, Text s i rs → Text s i ts → rs = ts := by
  intro rs
  induction rs with
  | nil =>
    intro ts i h k
    cases ts with
    | nil => rfl
    | cons c ts =>
      have := h.nil
      have := k.cons.1
      omega
  | cons d rs ih =>
    intro ts i h k
    cases ts with
    | nil =>
      have := k.nil
      have := h.cons.1
      omega
    | cons c ts =>
      obtain ⟨_, _, h1, h2, _⟩ := h.cons
      obtain ⟨_, _, k1, k2, _⟩ := k.cons
      rw [h1] at k1
      injection k1 with e1 e2
      subst e1
      rw [ih h2 k2]

theorem Text.not_bad {s : ByteArray} {rs : List Nat} {i : Nat} (h : Text s i rs) : ¬ BadFrom s i := by
  intro hb
  induction hb generalizing rs with
  | here i hi hb =>
    cases rs with
    | nil => have := h.nil; omega
    | cons c rs => rw [h.cons.2.1] at hb; cases hb
  | step i hi hb hr ih =>
    cases rs with
    | nil => have := h.nil; omega
    | cons c rs =>
      obtain ⟨_, _, h1, h2, _⟩ := h.cons
      rw [h1] at ih
      exact ih h2

/-! The program's functions over a row of runes. -/
theorem cnt_text {s : ByteArray} : ∀ {rs : List Nat} {i f : Nat} {acc : Int}, Text s i rs → s.size ≤ i + f → cntAt s f i acc = acc + rs.length := by
  intro rs
  induction rs with
  | nil =>
    intro i f acc h hf
    have := h.nil
    rw [cntAt_end s f i acc (by omega)]
    simp
  | cons c rs ih =>
    intro i f acc h hf
    obtain ⟨hi, hb, hd, ht, _⟩ := h.cons
    have hp := encL_pos c
    obtain ⟨f, rfl⟩ : ∃ g, f = g + 1 := ⟨f - 1, by omega⟩
    rw [cntAt_step s f i acc hi, hb, hd]
    simp only [Bool.false_eq_true, if_false]
    rw [ih ht (by omega)]
    simp
    omega

theorem cnt_bad {s : ByteArray} {i : Nat} (h : BadFrom s i) : ∀ {f : Nat} {acc : Int}, s.size ≤ i + f → cntAt s f i acc = -1 := by
  induction h with
  | here i hi hb =>
    intro f acc hf
    obtain ⟨f, rfl⟩ : ∃ g, f = g + 1 := ⟨f - 1, by omega⟩
    rw [cntAt_step s f i acc hi, hb]
    rfl
  | step i hi hb hr ih =>
    intro f acc hf
    have hp := width_pos s i hi
    obtain ⟨f, rfl⟩ : ∃ g, f = g + 1 := ⟨f - 1, by omega⟩
    rw [cntAt_step s f i acc hi, hb]
    simp only [Bool.false_eq_true, if_false]
    exact ih (by omega)

theorem runes_text {s : ByteArray} {rs : List Nat} (h : Text s 0 rs) : runesOf s = rs.length := by
  unfold runesOf
  rw [cnt_text h (by omega)]
  omega
theorem runes_bad {s : ByteArray} (h : BadFrom s 0) : runesOf s = -1 := cnt_bad h (by omega)

def wordRune (r : Nat) : Bool := isLetter r || isDigit r
def mayR : List Nat → Bool
  | [] => false
  | c :: rs => decide (rs.length < 32) && isLetter c && rs.all wordRune

theorem rest_text {s : ByteArray} : ∀ {rs : List Nat} {i f : Nat}, Text s i rs → 0 < i → s.size ≤ i + f → restMay s f i = rs.all wordRune := by
  intro rs
  induction rs with
  | nil =>
    intro i f h h0 hf
    have := h.nil
    rw [restMay_end s f i (by omega)]
    rfl
  | cons c rs ih =>
    intro i f h h0 hf
    obtain ⟨hi, hb, hd, ht, _⟩ := h.cons
    have hp := encL_pos c
    obtain ⟨f, rfl⟩ : ∃ g, f = g + 1 := ⟨f - 1, by omega⟩
    simp only [restMay]
    rw [if_pos hi, hd, ih ht (by omega) (by omega)]
    have e : (i != 0) = true := by simp; omega
    rw [e, List.all_cons, Bool.true_and]
    show (if wordRune c = true then _ else _) = _
    cases wordRune c <;> simp

theorem may_text {s : ByteArray} {rs : List Nat} (h : Text s 0 rs) : nameMay s = mayR rs := by
  unfold nameMay
  rw [runes_text h]
  cases rs with
  | nil => rw [if_pos (.inl (by decide))]; rfl
  | cons c rs =>
    obtain ⟨hi, hb, hd, ht, _⟩ := h.cons
    have hp := encL_pos c
    unfold mayR
    by_cases hl : rs.length < 32
    · rw [if_neg (by simp; omega)]
      obtain ⟨f, hf⟩ : ∃ g, s.size = g + 1 := ⟨s.size - 1, by omega⟩
      rw [hf]
      simp only [restMay]
      rw [if_pos hi, hd, rest_text ht (by omega) (by omega)]
      simp only [bne_self_eq_false, Bool.false_and, Bool.or_false]
      rw [decide_eq_true hl, Bool.true_and]
      cases isLetter (c : Int) <;> simp
    · rw [if_pos (by simp; omega)]
      show false = (decide (rs.length < 32) && isLetter (c : Int) && rs.all wordRune)
      rw [decide_eq_false hl]
      rfl

theorem may_bad {s : ByteArray} (h : BadFrom s 0) : nameMay s = false := by
  unfold nameMay
  rw [runes_bad h, if_pos (.inl (by decide))]

end Go.Proofs.Ytkflofjcjolehaa
