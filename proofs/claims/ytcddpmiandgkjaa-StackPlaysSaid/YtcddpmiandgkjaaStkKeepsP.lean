import Derived.Test.YtcddpmiandgkjaaStkBytesP
/-! The law StackKeeps: what is kept of what was stored. -/
namespace Go.Proofs.Ytcddpmiandgkjaa
open Go.RowKit Go.Maps Go.Lib Go.Deep
set_option maxHeartbeats 2000000
set_option maxRecDepth 100000
set_option linter.unusedSimpArgs false
set_option linter.unusedVariables false

theorem setN_getD (l : List Bool) (f : Nat) (v : Bool) (j : Nat) : ∀ n, f + n ≤ l.length → (setN l f v n).getD j false = if f ≤ j ∧ j < f + n then v else l.getD j false
  | 0, _ => by unfold setN; rw [if_neg (by omega)]
  | n + 1, h => by
    unfold setN
    rw [getD_set _ _ _ _ _ (by rw [setN_length]; omega), setN_getD l f v j n (by omega)]
    by_cases e : f + n = j
    · rw [if_pos e, if_pos (by omega)]
    · rw [if_neg e]
      by_cases e2 : f ≤ j ∧ j < f + n
      · rw [if_pos e2, if_pos (by omega)]
      · rw [if_neg e2, if_neg (by omega)]

theorem clrN_getD (l : List AV) (f j : Nat) : ∀ n, f + n ≤ 8 * l.length → (∀ i, i < n → (f + i) / 8 ≠ j) → (clrN l f n).getD j .nil = l.getD j .nil
  | 0, _, _ => rfl
  | n + 1, h, hn => by
    unfold clrN
    rw [getD_set _ _ _ _ _ (by rw [clrN_length]; omega), if_neg (hn n (by omega))]
    exact clrN_getD l f j n (by omega) (fun i hi => hn i (by omega))
theorem clrN_nil (l : List AV) (f : Nat) (j : Nat) (hj : l.getD j .nil = .nil) : ∀ n, (clrN l f n).getD j .nil = .nil
  | 0 => hj
  | n + 1 => by
    unfold clrN
    by_cases h : (f + n) / 8 < (clrN l f n).length
    · rw [getD_set _ _ _ _ _ h]
      split
      · rfl
      · exact clrN_nil l f j hj n
    · rw [List.set_eq_of_length_le (by omega)]
      exact clrN_nil l f j hj n
theorem clrN_hit (l : List AV) (f : Nat) : ∀ n, f + n ≤ 8 * l.length → ∀ i, i < n → (clrN l f n).getD ((f + i) / 8) .nil = .nil
  | n + 1, h, i, hi => by
    unfold clrN
    rw [getD_set _ _ _ _ _ (by rw [clrN_length]; omega)]
    by_cases e : (f + n) / 8 = (f + i) / 8
    · rw [if_pos e]
    · rw [if_neg e]
      by_cases e2 : i = n
      · subst e2; exact absurd rfl e
      · exact clrN_hit l f n (by omega) i (by omega)
theorem putN_getD (l : List Int) (f : Nat) (t : List Int) (j : Nat) : ∀ n, f + n ≤ l.length → (putN l f t n).getD j 0 = if f ≤ j ∧ j < f + n then t.getD (j - f) 0 else l.getD j 0
  | 0, _ => by unfold putN; rw [if_neg (by omega)]
  | n + 1, h => by
    unfold putN
    rw [getD_set _ _ _ _ _ (by rw [putN_length]; omega), putN_getD l f t j n (by omega)]
    by_cases e : f + n = j
    · rw [if_pos e, if_pos (by omega)]
      congr 1
      omega
    · rw [if_neg e]
      by_cases e2 : f ≤ j ∧ j < f + n
      · rw [if_pos e2, if_pos (by omega)]
      · rw [if_neg e2, if_neg (by omega)]

/-- What a stack keeps of a number at f, n bytes long: its bytes are there, set, and nothing is spilled over them. -/
structure KeepsNum (σ : Stk) (f n : Nat) (x : Int) : Prop where
  ok : σ.ok
  byte : ∀ i, i < n → σ.b.getD (f + i) 0 = (wordNums x n).getD i 0
  set : ∀ i, i < n → σ.isSet (f + i) = true
  no : ∀ i, i < n → σ.slot ((f + i) / 8) = .nil
/-- What it keeps of a value that is no number. -/
structure KeepsPtr (σ : Stk) (f : Nat) (v : AV) : Prop where
  ok : σ.ok
  at' : σ.slot (f / 8) = v

theorem num_ok {σ : Stk} (h : σ.ok) (f n : Nat) (x : Int) (hf : f + n ≤ 128) : (σ.num f n x).ok := by
  refine ⟨?_, ?_, ?_, ?_, ?_⟩
  · show (putN _ _ _ _).length = 128
    rw [putN_length, h.b]
  · show (setN _ _ _ _).length = 128
    rw [setN_length, h.s]
  · show (clrN _ _ _).length = 16
    rw [clrN_length, h.l]
  · intro y hy
    have hy : y ∈ putN σ.b f (wordNums x n) n := hy
    rw [putN_form _ _ _ _ (by rw [wordNums_length]; exact Nat.le_refl _) (by rw [h.b]; exact hf)] at hy
    simp only [List.mem_append] at hy
    rcases hy with (hy | hy) | hy
    · exact h.range y (List.mem_of_mem_take hy)
    · exact wordNums_range x n y (List.mem_of_mem_take hy)
    · exact h.range y (List.mem_of_mem_drop hy)
  · have hcl : ∀ n, ∀ v ∈ clrN σ.l f n, v = .nil ∨ v.is = true := by
      intro n
      induction n with
      | zero => exact h.is
      | succ n ih =>
        intro v hv
        rcases List.mem_or_eq_of_mem_set hv with hv | rfl
        · exact ih v hv
        · exact .inl rfl
    exact hcl n

theorem spill_ok {σ : Stk} (h : σ.ok) (f : Nat) (v : AV) (hv : v.is = true) : (σ.spill f v).ok :=
  ⟨h.b, by show (setN _ _ _ _).length = 128; rw [setN_length, h.s], by show (List.set _ _ _).length = 16; rw [List.length_set, h.l], h.range, (h.setL (f / 8) v (.inr hv)).is⟩

theorem store_ok {σ : Stk} (h : σ.ok) (a n : Int) (v : AV) : (σ.store a n v).1.ok := by
  unfold Stk.store
  split
  · exact h
  · rename_i hi
    split
    · exact h
    · rename_i his
      obtain ⟨hn, h0, h1⟩ := load_in σ a n (by simpa using hi)
      split
      · exact num_ok h _ _ _ (by omega)
      · split
        · exact spill_ok h _ _ (by simpa using his)
        · exact h

/-- What Store does where it answers OK. -/
theorem store_ways (σ : Stk) (a n : Int) (v : AV) (h : (σ.store a n v).2 = 0) :
    stkIn a n = true ∧ v.is = true ∧ ((∃ x, v = .num x ∧ (σ.store a n v).1 = σ.num (a + 128).toNat n.toNat x) ∨ (v.numOf = none ∧ n = 8 ∧ (a + 128) % 8 = 0 ∧ (σ.store a n v).1 = σ.spill (a + 128).toNat v)) := by
  unfold Stk.store at h ⊢
  by_cases hi : stkIn a n = false
  · rw [if_pos hi] at h; cases h
  · rw [if_neg hi] at h ⊢
    by_cases his : v.is = false
    · rw [if_pos his] at h; cases h
    · rw [if_neg his] at h ⊢
      refine ⟨by simpa using hi, by simpa using his, ?_⟩
      rcases v.num_form with ⟨x, _, rfl⟩ | ⟨_, hno⟩
      · exact .inl ⟨x, rfl, rfl⟩
      · rw [hno] at h ⊢
        simp only [] at h ⊢
        by_cases h8 : n = 8 ∧ (a + 128) % 8 = 0
        · rw [if_pos h8]
          exact .inr ⟨trivial, h8.1, h8.2, rfl⟩
        · rw [if_neg h8] at h; cases h

theorem store_not (σ : Stk) (a n : Int) (v : AV) (h : (σ.store a n v).2 ≠ 0) : (σ.store a n v).1 = σ := by
  unfold Stk.store at h ⊢
  split
  · rfl
  · rename_i hi
    rw [if_neg hi] at h
    split
    · rfl
    · rename_i his
      rw [if_neg his] at h
      split
      · rename_i x hx
        rw [hx] at h
        exact absurd rfl h
      · rename_i hx
        rw [hx] at h
        simp only [] at h
        split
        · rename_i h8
          rw [if_pos h8] at h
          exact absurd rfl h
        · rfl

theorem keeps_num_new {σ : Stk} (h : σ.ok) (f n : Nat) (x : Int) (hf : f + n ≤ 128) : KeepsNum (σ.num f n x) f n x := by
  refine ⟨num_ok h f n x hf, fun i hi => ?_, fun i hi => ?_, fun i hi => ?_⟩
  · show (putN _ _ _ _).getD (f + i) 0 = _
    rw [putN_getD _ _ _ _ _ (by rw [h.b]; exact hf), if_pos (by omega)]
    congr 1
    omega
  · show (setN _ _ _ _).getD (f + i) false = _
    rw [setN_getD _ _ _ _ _ (by rw [h.s]; exact hf), if_pos (by omega)]
  · exact clrN_hit _ _ _ (by rw [h.l]; omega) i hi

/-- Behind a Store elsewhere. -/
theorem keeps_num_store {σ : Stk} {f n : Nat} {x : Int} (h : KeepsNum σ f n x) (a s : Int) (v : AV) (h0 : (σ.store a s v).2 = 0) (hap : ¬ (a + 128 < f + n ∧ (f : Int) < a + 128 + s)) (hf : f + n ≤ 128) : KeepsNum (σ.store a s v).1 f n x := by
  have hok := store_ok h.ok a s v
  obtain ⟨hi, his, hw⟩ := store_ways σ a s v h0
  obtain ⟨hn, ha0, ha1⟩ := load_in σ a s hi
  obtain ⟨g, hg⟩ : ∃ g : Nat, a + 128 = g := ⟨(a + 128).toNat, by omega⟩
  obtain ⟨m, rfl⟩ : ∃ m : Nat, s = m := ⟨s.toNat, by omega⟩
  rw [hg] at hw hap
  have hap2 : g ≥ f + n ∨ f ≥ g + m := by omega
  rcases hw with ⟨y, rfl, hs⟩ | ⟨hno, h8, hd, hs⟩
  · have hs : (σ.store a m (.num y)).1 = σ.num g m y := hs
    rw [hs] at hok ⊢
    refine ⟨hok, fun i hi => ?_, fun i hi => ?_, fun i hi => ?_⟩
    · show (putN _ _ _ _).getD (f + i) 0 = _
      rw [putN_getD _ _ _ _ _ (by rw [h.ok.b]; omega), if_neg (by omega)]
      exact h.byte i hi
    · show (setN _ _ _ _).getD (f + i) false = _
      rw [setN_getD _ _ _ _ _ (by rw [h.ok.s]; omega), if_neg (by omega)]
      exact h.set i hi
    · exact clrN_nil _ _ _ (h.no i hi) _
  · have hs : (σ.store a m v).1 = σ.spill g v := hs
    rw [hs] at hok ⊢
    refine ⟨hok, fun i hi => h.byte i hi, fun i hi => ?_, fun i hi => ?_⟩
    · show (setN _ _ _ _).getD (f + i) false = _
      rw [setN_getD _ _ _ _ _ (by rw [h.ok.s]; omega), if_neg (by omega)]
      exact h.set i hi
    · show (List.set _ _ _).getD _ _ = _
      rw [getD_set _ _ _ _ _ (by rw [h.ok.l]; omega), if_neg (by omega)]
      exact h.no i hi

theorem keeps_ptr_store {σ : Stk} {f : Nat} {u : AV} (h : KeepsPtr σ f u) (hf8 : f % 8 = 0) (a s : Int) (v : AV) (h0 : (σ.store a s v).2 = 0) (hap : ¬ (a + 128 < f + 8 ∧ (f : Int) < a + 128 + s)) (hf : f + 8 ≤ 128) : KeepsPtr (σ.store a s v).1 f u := by
  have hok := store_ok h.ok a s v
  obtain ⟨hi, his, hw⟩ := store_ways σ a s v h0
  obtain ⟨hn, ha0, ha1⟩ := load_in σ a s hi
  obtain ⟨g, hg⟩ : ∃ g : Nat, a + 128 = g := ⟨(a + 128).toNat, by omega⟩
  obtain ⟨m, rfl⟩ : ∃ m : Nat, s = m := ⟨s.toNat, by omega⟩
  rw [hg] at hw hap
  have hap2 : g ≥ f + 8 ∨ f ≥ g + m := by omega
  rcases hw with ⟨y, rfl, hs⟩ | ⟨hno, h8, hd, hs⟩
  · have hs : (σ.store a m (.num y)).1 = σ.num g m y := hs
    rw [hs] at hok ⊢
    refine ⟨hok, ?_⟩
    show (clrN _ _ _).getD _ _ = _
    rw [clrN_getD _ _ _ _ (by rw [h.ok.l]; omega) (fun i hi => by omega)]
    exact h.at'
  · have hs : (σ.store a m v).1 = σ.spill g v := hs
    rw [hs] at hok ⊢
    refine ⟨hok, ?_⟩
    show (List.set _ _ _).getD _ _ = _
    rw [getD_set _ _ _ _ _ (by rw [h.ok.l]; omega), if_neg (by omega)]
    exact h.at'

theorem keeps_allSet {σ : Stk} {f n : Nat} {x : Int} (h : KeepsNum σ f n x) : ∀ k, k ≤ n → σ.allSet f k = true
  | 0, _ => rfl
  | k + 1, hk => by unfold Stk.allSet; rw [keeps_allSet h k (by omega), h.set k (by omega)]; rfl
theorem keeps_noSp {σ : Stk} {f n : Nat} {x : Int} (h : KeepsNum σ f n x) : ∀ k, k ≤ n → σ.anySp f k = false
  | 0, _ => rfl
  | k + 1, hk => by unfold Stk.anySp; rw [keeps_noSp h k (by omega), h.no k (by omega)]; rfl

theorem keeps_num_load {σ : Stk} {f n : Nat} {x : Int} (h : KeepsNum σ f n x) (a : Int) (ha : a + 128 = f) (hi : stkIn a n = true) (hx0 : 0 ≤ x) (hx1 : x < 18446744073709551616) : σ.load a n = (.num (x % 256 ^ n), 0) := by
  obtain ⟨hn, h0, h1⟩ := load_in σ a n hi
  have hsp : (σ.spAt a).no = true := by
    unfold Stk.spAt
    split
    · have := h.no 0 (by omega)
      rw [show ((a + 128) / 8).toNat = (f + 0) / 8 by omega, this]
      rfl
    · rfl
  have hr : σ.read f n = (strOfNums (wordNums x n), 0) := by
    unfold Stk.read
    rw [if_neg (by rw [keeps_noSp h n (Nat.le_refl _)]; simp), if_pos (keeps_allSet h n (Nat.le_refl _))]
    congr 1
    unfold Stk.text
    congr 1
    have hl := wordNums_length x n
    apply List.ext_getElem?
    intro i
    rw [List.getElem?_take]
    by_cases hin : i < n
    · rw [if_pos hin, List.getElem?_drop]
      have h1 := h.byte i hin
      rw [List.getD_eq_getElem?_getD, List.getD_eq_getElem?_getD, List.getElem?_eq_getElem (by rw [h.ok.b]; omega), List.getElem?_eq_getElem (by omega)] at h1
      rw [List.getElem?_eq_getElem (by rw [h.ok.b]; omega), List.getElem?_eq_getElem (by omega)]
      simpa using h1
    · rw [if_neg hin, List.getElem?_eq_none (by omega)]
  unfold Stk.load
  rw [if_neg (by simp [hi]), if_neg (by rw [hsp]; simp), ha, show (f : Int).toNat = f by omega, show (n : Int).toNat = n by omega, hr, if_pos rfl]
  have hw : wordOf x n = strOfNums (wordNums x n) := by unfold wordOf; rw [if_pos hn]; rfl
  have hnum := numAt_wordOf x n hx0 hx1 hn
  rw [hw] at hnum
  have hs : (strOfNums (wordNums x n)).size = n := by rw [strOfNums_size_, wordNums_length]
  congr 2
  unfold wordGet
  rw [if_neg (by omega), if_neg (by rw [hs]; omega)]
  exact hnum

theorem no_is {v : AV} (hv : v.is = true) : v.no = false := by cases v <;> first | rfl | cases hv

theorem keeps_ptr_load {σ : Stk} {f : Nat} {v : AV} (h : KeepsPtr σ f v) (hv : v.is = true) (hf8 : f % 8 = 0) (a : Int) (ha : a + 128 = f) (hi : stkIn a 8 = true) : σ.load a 8 = (v, 0) := by
  obtain ⟨hn, h0, h1⟩ := load_in σ a 8 hi
  have hsp : σ.spAt a = v := by
    unfold Stk.spAt
    rw [if_pos (by omega), show ((a + 128) / 8).toNat = f / 8 by omega]
    exact h.at'
  unfold Stk.load
  rw [if_neg (by simp [hi]), hsp, if_pos (And.intro (no_is hv) rfl)]

/-- What Load answers within: OK, or one of two errors. -/
theorem load_codes (σ : Stk) (a n : Int) (hi : stkIn a n = true) : (σ.load a n).2 = 0 ∨ (σ.load a n).2 = 220 ∨ (σ.load a n).2 = 221 := by
  unfold Stk.load
  rw [if_neg (by simp [hi])]
  split
  · exact .inl rfl
  · split
    · exact .inl rfl
    · show (σ.read _ _).2 = 0 ∨ (σ.read _ _).2 = 220 ∨ (σ.read _ _).2 = 221
      unfold Stk.read
      split
      · exact .inr (.inr rfl)
      · split
        · exact .inl rfl
        · exact .inr (.inl rfl)

/-- The number cut to its size. -/
theorem low_of (x : Int) (n : Nat) (hn : (n : Int) = 1 ∨ (n : Int) = 2 ∨ (n : Int) = 4 ∨ (n : Int) = 8) : wordLow x n = x % 256 ^ n := by
  rcases (show n = 1 ∨ n = 2 ∨ n = 4 ∨ n = 8 by omega) with rfl | rfl | rfl | rfl <;> rfl

end Go.Proofs.Ytcddpmiandgkjaa
