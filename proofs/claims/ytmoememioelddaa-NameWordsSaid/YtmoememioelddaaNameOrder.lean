import Derived.Test.YtmoememioelddaaNameFields
/-! The order of texts: byte by byte; of valid ones, rune by rune. -/
namespace Go.Proofs.Ytmoememioelddaa
open Go.RowKit Go.Lib

def cmpN : List Nat → List Nat → Int
  | [], [] => 0
  | [], _ :: _ => -1
  | _ :: _, [] => 1
  | a :: as, b :: bs => if a < b then -1 else if b < a then 1 else cmpN as bs

theorem cmp_cons (x y : Nat) (hx : x < 256) (hy : y < 256) (as bs : List UInt8) :
    compareBytes (UInt8.ofNat x :: as) (UInt8.ofNat y :: bs) = if x < y then -1 else if y < x then 1 else compareBytes as bs := by
  have e : ∀ p q : Nat, p < 256 → q < 256 → (UInt8.ofNat p < UInt8.ofNat q ↔ p < q) := fun p q hp hq => by
    rw [UInt8.lt_iff_toNat_lt, ofNat_toNat hp, ofNat_toNat hq]
  simp only [compareBytes, e x y hx hy, e y x hy hx]

theorem cmp_h_eq {x y : Nat} (h : x = y) (hx : x < 256) (as bs : List UInt8) : compareBytes (UInt8.ofNat x :: as) (UInt8.ofNat y :: bs) = compareBytes as bs := by
  subst h
  rw [cmp_cons x x hx hx, if_neg (by omega), if_neg (by omega)]
theorem cmp_h_lt {x y : Nat} (h : x < y) (hy : y < 256) (as bs : List UInt8) : compareBytes (UInt8.ofNat x :: as) (UInt8.ofNat y :: bs) = -1 := by
  rw [cmp_cons x y (by omega) hy, if_pos h]
theorem cmp_h_gt {x y : Nat} (h : y < x) (hx : x < 256) (as bs : List UInt8) : compareBytes (UInt8.ofNat x :: as) (UInt8.ofNat y :: bs) = 1 := by
  rw [cmp_cons x y hx (by omega), if_neg (by omega), if_pos h]

theorem cmp_same (l : List UInt8) (m m' : List UInt8) : compareBytes (l ++ m) (l ++ m') = compareBytes m m' := by
  induction l with
  | nil => rfl
  | cons a l ih =>
    show (if a < a then (-1 : Int) else if a < a then 1 else compareBytes (l ++ m) (l ++ m')) = _
    rw [if_neg (by simp), if_neg (by simp), ih]

theorem enc_one {c : Nat} (h : c < 128) : encL c = [UInt8.ofNat c] := by unfold encL; rw [if_pos h]
theorem enc_two {c : Nat} (h : ¬ c < 128) (h2 : c < 2048) : encL c = [UInt8.ofNat (192 + c / 64), UInt8.ofNat (128 + c % 64)] := by unfold encL; rw [if_neg h, if_pos h2]
theorem enc_three {c : Nat} (h : ¬ c < 128) (h2 : ¬ c < 2048) (h3 : c < 65536) : encL c = [UInt8.ofNat (224 + c / 4096), UInt8.ofNat (128 + c / 64 % 64), UInt8.ofNat (128 + c % 64)] := by
  unfold encL; rw [if_neg h, if_neg h2, if_pos h3]
theorem enc_four {c : Nat} (h : ¬ c < 128) (h2 : ¬ c < 2048) (h3 : ¬ c < 65536) : encL c = [UInt8.ofNat (240 + c / 262144), UInt8.ofNat (128 + c / 4096 % 64), UInt8.ofNat (128 + c / 64 % 64), UInt8.ofNat (128 + c % 64)] := by
  unfold encL; rw [if_neg h, if_neg h2, if_neg h3]

/-- A rune's first byte. -/
def lead (c : Nat) : Nat := if c < 128 then c else if c < 2048 then 192 + c / 64 else if c < 65536 then 224 + c / 4096 else 240 + c / 262144

theorem enc_lead (c : Nat) : ∃ t, encL c = UInt8.ofNat (lead c) :: t := by
  unfold encL lead
  repeat' split
  all_goals exact ⟨_, rfl⟩

theorem lead_lt {c : Nat} (h : c ≤ 1114111) : lead c < 256 := by
  unfold lead
  repeat' split
  all_goals omega

theorem enc_lt {c d : Nat} (hc : c ≤ 1114111) (hd : d ≤ 1114111) (h : c < d) (m m' : List UInt8) : compareBytes (encL c ++ m) (encL d ++ m') = -1 ∧ compareBytes (encL d ++ m') (encL c ++ m) = 1 := by
  by_cases hl : lead c = lead d
  · unfold lead at hl
    by_cases c1 : c < 128
    · by_cases d1 : d < 128
      · rw [if_pos c1, if_pos d1] at hl; omega
      · rw [if_pos c1, if_neg d1] at hl
        split at hl <;> (try split at hl) <;> omega
    · by_cases c2 : c < 2048
      · by_cases d2 : d < 2048
        · have d1 : ¬ d < 128 := by omega
          rw [if_neg c1, if_pos c2, if_neg d1, if_pos d2] at hl
          rw [enc_two c1 c2, enc_two d1 d2]
          simp only [List.cons_append]
          exact ⟨by rw [cmp_h_eq (by omega) (by omega), cmp_h_lt (by omega) (by omega)], by rw [cmp_h_eq (by omega) (by omega), cmp_h_gt (by omega) (by omega)]⟩
        · have d1 : ¬ d < 128 := by omega
          rw [if_neg c1, if_pos c2, if_neg d1, if_neg d2] at hl
          split at hl <;> omega
      · have d1 : ¬ d < 128 := by omega
        have d2 : ¬ d < 2048 := by omega
        rw [if_neg c1, if_neg c2, if_neg d1, if_neg d2] at hl
        by_cases c3 : c < 65536
        · by_cases d3 : d < 65536
          · rw [if_pos c3, if_pos d3] at hl
            rw [enc_three c1 c2 c3, enc_three d1 d2 d3]
            simp only [List.cons_append]
            by_cases e : c / 64 % 64 < d / 64 % 64
            · exact ⟨by rw [cmp_h_eq (by omega) (by omega), cmp_h_lt (by omega) (by omega)], by rw [cmp_h_eq (by omega) (by omega), cmp_h_gt (by omega) (by omega)]⟩
            · exact ⟨by rw [cmp_h_eq (by omega) (by omega), cmp_h_eq (by omega) (by omega), cmp_h_lt (by omega) (by omega)], by rw [cmp_h_eq (by omega) (by omega), cmp_h_eq (by omega) (by omega), cmp_h_gt (by omega) (by omega)]⟩
          · rw [if_pos c3, if_neg d3] at hl; omega
        · have d3 : ¬ d < 65536 := by omega
          rw [if_neg c3, if_neg d3] at hl
          rw [enc_four c1 c2 c3, enc_four d1 d2 d3]
          simp only [List.cons_append]
          by_cases e : c / 4096 % 64 < d / 4096 % 64
          · exact ⟨by rw [cmp_h_eq (by omega) (by omega), cmp_h_lt (by omega) (by omega)], by rw [cmp_h_eq (by omega) (by omega), cmp_h_gt (by omega) (by omega)]⟩
          · by_cases e2 : c / 64 % 64 < d / 64 % 64
            · exact ⟨by rw [cmp_h_eq (by omega) (by omega), cmp_h_eq (by omega) (by omega), cmp_h_lt (by omega) (by omega)], by rw [cmp_h_eq (by omega) (by omega), cmp_h_eq (by omega) (by omega), cmp_h_gt (by omega) (by omega)]⟩
            · exact ⟨by rw [cmp_h_eq (by omega) (by omega), cmp_h_eq (by omega) (by omega), cmp_h_eq (by omega) (by omega), cmp_h_lt (by omega) (by omega)], by rw [cmp_h_eq (by omega) (by omega), cmp_h_eq (by omega) (by omega), cmp_h_eq (by omega) (by omega), cmp_h_gt (by omega) (by omega)]⟩
  · obtain ⟨t, ht⟩ := enc_lead c
    obtain ⟨u, hu⟩ := enc_lead d
    have hlt : lead c < lead d := by
      unfold lead at hl ⊢
      repeat' split
      all_goals simp_all
      all_goals omega
    rw [ht, hu]
    simp only [List.cons_append]
    rw [cmp_cons _ _ (lead_lt hc) (lead_lt hd), cmp_cons _ _ (lead_lt hd) (lead_lt hc), if_pos hlt, if_neg (by omega), if_pos hlt]
    exact ⟨rfl, rfl⟩

theorem valid_le {c : Nat} (h : validN c = true) : c ≤ 1114111 := by
  unfold validN at h
  simp at h
  omega

/-- Of valid texts the order of the bytes is that of the runes. -/
theorem cmp_bytes : ∀ {rs ts : List Nat}, (∀ c ∈ rs, validN c = true) → (∀ c ∈ ts, validN c = true) → compareBytes (rs.flatMap encL) (ts.flatMap encL) = cmpN rs ts := by
  intro rs
  induction rs with
  | nil =>
    intro ts _ _
    cases ts with
    | nil => rfl
    | cons d ts =>
      obtain ⟨t, ht⟩ := enc_lead d
      rw [List.flatMap_cons, ht]
      rfl
  | cons c rs ih =>
    intro ts h k
    cases ts with
    | nil =>
      obtain ⟨t, ht⟩ := enc_lead c
      rw [List.flatMap_cons, ht]
      rfl
    | cons d ts =>
      rw [List.flatMap_cons, List.flatMap_cons]
      have hc := valid_le (h c (by simp))
      have hd := valid_le (k d (by simp))
      show _ = if c < d then -1 else if d < c then 1 else cmpN rs ts
      rcases Nat.lt_trichotomy c d with e | e | e
      · rw [if_pos e]
        exact (enc_lt hc hd e _ _).1
      · subst e
        rw [if_neg (by omega), if_neg (by omega), cmp_same]
        exact ih (fun x hx => h x (by simp [hx])) (fun x hx => k x (by simp [hx]))
      · rw [if_neg (by omega), if_pos e]
        exact (enc_lt hd hc e _ _).2

theorem cmp_anti (a b : List UInt8) : compareBytes a b = - compareBytes b a := by
  induction a generalizing b with
  | nil => cases b <;> rfl
  | cons x a ih =>
    cases b with
    | nil => rfl
    | cons y b =>
      simp only [compareBytes]
      by_cases h1 : x < y
      · have h2 : ¬ y < x := by rw [UInt8.lt_iff_toNat_lt] at *; omega
        rw [if_pos h1, if_neg h2, if_pos h1]
      · by_cases h2 : y < x
        · rw [if_neg h1, if_pos h2, if_pos h2]; rfl
        · rw [if_neg h1, if_neg h2, if_neg h2, if_neg h1, ih]

theorem cmp_range (a b : List UInt8) : compareBytes a b = -1 ∨ compareBytes a b = 0 ∨ compareBytes a b = 1 := by
  induction a generalizing b with
  | nil => cases b <;> simp [compareBytes]
  | cons x a ih =>
    cases b with
    | nil => simp [compareBytes]
    | cons y b =>
      simp only [compareBytes]
      split
      · exact .inl rfl
      · split
        · exact .inr (.inr rfl)
        · exact ih b

theorem cmp_zero (a b : List UInt8) : compareBytes a b = 0 ↔ a = b := by
  induction a generalizing b with
  | nil => cases b <;> simp [compareBytes]
  | cons x a ih =>
    cases b with
    | nil => simp [compareBytes]
    | cons y b =>
      simp only [compareBytes]
      by_cases h1 : x < y
      · rw [if_pos h1]
        constructor
        · intro h; omega
        · intro h; injection h with h _; subst h; simp at h1
      · by_cases h2 : y < x
        · rw [if_neg h1, if_pos h2]
          constructor
          · intro h; omega
          · intro h; injection h with h _; subst h; simp at h2
        · rw [if_neg h1, if_neg h2, ih]
          have e : x = y := by
            rw [UInt8.lt_iff_toNat_lt] at h1 h2
            exact UInt8.toNat_inj.1 (by omega)
          subst e
          simp

theorem cmp_trans (a b c : List UInt8) (h : compareBytes a b ≤ 0) (k : compareBytes b c ≤ 0) : compareBytes a c ≤ 0 := by
  induction a generalizing b c with
  | nil => cases c <;> simp [compareBytes]
  | cons x a ih =>
    cases b with
    | nil => simp [compareBytes] at h
    | cons y b =>
      cases c with
      | nil => simp [compareBytes] at k
      | cons z c =>
        simp only [compareBytes, UInt8.lt_iff_toNat_lt] at h k ⊢
        split at h
        · split at k
          · rw [if_pos (by omega)]; omega
          · split at k
            · omega
            · rw [if_pos (by omega)]; omega
        · split at h
          · omega
          · split at k
            · rw [if_pos (by omega)]; omega
            · split at k
              · omega
              · rw [if_neg (by omega), if_neg (by omega)]
                exact ih b c h k

theorem less_cmp (a b : List UInt8) : Op.bytesLess a b = decide (compareBytes a b < 0) := by
  induction a generalizing b with
  | nil => cases b <;> simp [compareBytes, Op.bytesLess]
  | cons x a ih =>
    cases b with
    | nil => simp [compareBytes, Op.bytesLess]
    | cons y b =>
      simp only [compareBytes, Op.bytesLess]
      by_cases h1 : x < y
      · simp [h1]
      · by_cases h2 : y < x
        · have hne : (x == y) = false := by
            rw [beq_eq_false_iff_ne]
            rintro rfl
            simp at h2
          simp [h1, h2, hne]
        · have e : x = y := by
            rw [UInt8.lt_iff_toNat_lt] at h1 h2
            exact UInt8.toNat_inj.1 (by omega)
          subst e
          simp [ih]

end Go.Proofs.Ytmoememioelddaa
