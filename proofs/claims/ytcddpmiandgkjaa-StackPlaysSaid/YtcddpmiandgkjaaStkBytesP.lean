import Derived.Test.YtcddpmiandgkjaaStkG
/-! The law StackBytes: what its stacks hold. -/
namespace Go.Proofs.Ytcddpmiandgkjaa
open Go.RowKit Go.Maps Go.Lib Go.Deep
set_option maxHeartbeats 2000000
set_option maxRecDepth 100000
set_option linter.unusedSimpArgs false
set_option linter.unusedVariables false

/-- The stack behind k of the eight bytes, of which those that bt tells are stored. -/
def byt (f : Nat) (t : List Int) (bt : Nat → Bool) : Nat → Stk
  | 0 => Stk.new
  | k + 1 => if bt k then (byt f t bt k).num (f + k) 1 (t.getD k 0) else byt f t bt k
def allBt (bt : Nat → Bool) : Nat → Bool
  | 0 => true
  | k + 1 => allBt bt k && bt k

theorem num_one (σ : Stk) (j : Nat) (y : Int) (h0 : 0 ≤ y) (h1 : y < 256) : σ.num j 1 y = ⟨σ.b.set j y, σ.s.set j true, σ.l.set (j / 8) .nil⟩ := by
  have h : wordNums y 1 = [y % 256] := rfl
  have h2 : y % 256 = y := by omega
  unfold Stk.num
  rw [h, h2]
  rfl

structure BytAt (f : Nat) (t : List Int) (bt : Nat → Bool) (k : Nat) (σ : Stk) : Prop where
  ok : σ.ok
  no : ∀ j, σ.slot j = .nil
  set : ∀ i, i < 8 → σ.isSet (f + i) = (decide (i < k) && bt i)
  byte : ∀ i, i < 8 → i < k → bt i = true → σ.b.getD (f + i) 0 = t.getD i 0

theorem getD_nil (l : List AV) (h : ∀ j, l.getD j .nil = .nil) (m : Nat) : ∀ j, (l.set m .nil).getD j .nil = .nil := by
  intro j
  rw [List.getD_eq_getElem?_getD, List.getElem?_set]
  by_cases e : m = j
  · subst e
    by_cases h2 : m < l.length
    · simp [h2]
    · simp [h2]
  · rw [if_neg e, ← List.getD_eq_getElem?_getD]
    exact h j

theorem byt_at (f : Nat) (hf : f + 8 ≤ 128) (t : List Int) (ht : ∀ k, 0 ≤ t.getD k 0 ∧ t.getD k 0 < 256) (bt : Nat → Bool) : ∀ k, k ≤ 8 → BytAt f t bt k (byt f t bt k)
  | 0, _ => by
    refine ⟨Stk.new_ok, fun j => ?_, fun i hi => ?_, fun i _ h => by omega⟩
    · unfold Stk.slot byt Stk.new
      rw [List.getD_eq_getElem?_getD, List.getElem?_replicate]
      split <;> rfl
    · unfold Stk.isSet byt Stk.new
      rw [List.getD_eq_getElem?_getD, List.getElem?_replicate]
      split <;> simp
  | k + 1, h => by
    have ih := byt_at f hf t ht bt k (by omega)
    unfold byt
    cases hb : bt k with
    | false =>
      rw [if_neg (by simp)]
      refine ⟨ih.ok, ih.no, fun i hi => ?_, fun i hi h1 h2 => ?_⟩
      · rw [ih.set i hi]
        by_cases e : i = k
        · subst e; simp [hb]
        · congr 1
          simp
          omega
      · by_cases e : i = k
        · subst e; rw [hb] at h2; cases h2
        · exact ih.byte i hi (by omega) h2
    | true =>
      rw [if_pos rfl, num_one _ _ _ (ht k).1 (ht k).2]
      refine ⟨⟨by simp [ih.ok.b], by simp [ih.ok.s], by simp [ih.ok.l], fun y hy => ?_, ?_⟩, ?_, fun i hi => ?_, fun i hi h1 h2 => ?_⟩
      · rcases List.mem_or_eq_of_mem_set hy with hy | rfl
        · exact ih.ok.range y hy
        · exact ht k
      · exact (ih.ok.setL _ .nil (.inl rfl)).is
      · exact getD_nil _ ih.no _
      · show ((byt f t bt k).s.set (f + k) true).getD (f + i) false = _
        rw [getD_set _ _ _ _ _ (by rw [ih.ok.s]; omega)]
        by_cases e : i = k
        · subst e; rw [if_pos rfl, hb]; simp
        · rw [if_neg (by omega)]
          have := ih.set i hi
          unfold Stk.isSet at this
          rw [this]
          congr 1
          simp
          omega
      · show ((byt f t bt k).b.set (f + k) (t.getD k 0)).getD (f + i) 0 = _
        rw [getD_set _ _ _ _ _ (by rw [ih.ok.b]; omega)]
        by_cases e : i = k
        · subst e; rw [if_pos rfl]
        · rw [if_neg (by omega)]
          exact ih.byte i hi (by omega) h2

theorem no_sp {σ : Stk} (h : ∀ j, σ.slot j = .nil) (f : Nat) : ∀ n, σ.anySp f n = false
  | 0 => rfl
  | n + 1 => by unfold Stk.anySp; rw [no_sp h f n, h]; rfl

theorem allBt_lt {bt : Nat → Bool} : ∀ {n : Nat}, allBt bt n = true → ∀ i, i < n → bt i = true
  | n + 1, h, i, hi => by
    unfold allBt at h
    rw [Bool.and_eq_true] at h
    by_cases e : i = n
    · subst e; exact h.2
    · exact allBt_lt h.1 i (by omega)

section
variable {f : Nat} {bt : Nat → Bool} {σ : Stk} {x : Int}
theorem byt_all {t : List Int} (h : BytAt f t bt 8 σ) : ∀ n, n ≤ 8 → σ.allSet f n = allBt bt n
  | 0, _ => rfl
  | n + 1, hn => by
    unfold Stk.allSet allBt
    rw [byt_all h n (by omega), h.set n (by omega), decide_eq_true (show n < 8 by omega)]
    rfl

theorem byt_read (hf : f + 8 ≤ 128) (h : BytAt f (wordNums x 8) bt 8 σ) : σ.read f 8 = if allBt bt 8 then (strOfNums (wordNums x 8), 0) else (⟨#[]⟩, 220) := by
  unfold Stk.read
  rw [if_neg (by rw [no_sp h.no]; simp), byt_all h 8 (Nat.le_refl _)]
  cases ha : allBt bt 8 with
  | false => rfl
  | true =>
    rw [if_pos rfl, if_pos rfl]
    unfold Stk.text
    congr 1
    congr 1
    have hl := wordNums_length x 8
    apply List.ext_getElem?
    intro i
    rw [List.getElem?_take]
    by_cases hi : i < 8
    · rw [if_pos hi, List.getElem?_drop]
      have h1 := h.byte i hi hi (allBt_lt ha i hi)
      rw [List.getD_eq_getElem?_getD, List.getD_eq_getElem?_getD, List.getElem?_eq_getElem (by rw [h.ok.b]; omega), List.getElem?_eq_getElem (by omega)] at h1
      rw [List.getElem?_eq_getElem (by rw [h.ok.b]; omega), List.getElem?_eq_getElem (by omega)]
      simpa using h1
    · rw [if_neg hi, List.getElem?_eq_none (by omega)]

theorem get_full (hx0 : 0 ≤ x) (hx1 : x < 18446744073709551616) : (wordGet (strOfNums (wordNums x 8)) 0 8).1 = x := by
  have h := numAt_wordOf x 8 hx0 hx1 (by omega)
  have hw : wordOf x 8 = strOfNums (wordNums x 8) := if_pos (by omega)
  rw [hw] at h
  have hs : (strOfNums (wordNums x 8)).size = 8 := by rw [strOfNums_size_, wordNums_length]
  unfold wordGet
  rw [if_neg (by omega), if_neg (by rw [hs]; omega)]
  have h : numAt (strOfNums (wordNums x 8)) 0 8 = x % 256 ^ 8 := h
  show numAt (strOfNums (wordNums x 8)) 0 8 = x
  rw [h]
  omega

theorem get_one (y : Int) (h0 : 0 ≤ y) (h1 : y < 256) : (wordGet (strOfNums [y]) 0 1).1 = y := by
  have hs : (strOfNums [y]).size = 1 := by rw [strOfNums_size_]; rfl
  unfold wordGet
  rw [if_neg (by omega), if_neg (by rw [hs]; omega)]
  show numAt (strOfNums [y]) 0 1 = y
  rw [numAt_str [y] (by simp; omega) 1 0 (by simp)]
  simp [numOf]

theorem sp_nil (h : ∀ j, σ.slot j = .nil) (a : Int) : σ.spAt a = .nil := by
  unfold Stk.spAt
  split
  · exact h _
  · rfl

theorem byt_load (hf : f + 8 ≤ 128) (h : BytAt f (wordNums x 8) bt 8 σ) (hx0 : 0 ≤ x) (hx1 : x < 18446744073709551616) (a : Int) (ha : a + 128 = f) :
    σ.load a 8 = if allBt bt 8 then (.num x, 0) else (.nil, 220) := by
  unfold Stk.load
  have hi : stkIn a 8 = true := by unfold stkIn; rw [decide_eq_true_eq]; omega
  rw [if_neg (by simp [hi]), if_neg (by rw [sp_nil h.no]; simp [AV.no]), ha, show (f : Int).toNat = f by omega, show (8 : Int).toNat = 8 by rfl, byt_read hf h]
  cases allBt bt 8 with
  | false => rfl
  | true =>
    rw [if_pos rfl, if_pos rfl, if_pos rfl, get_full hx0 hx1]

theorem byt_one (hf : f + 8 ≤ 128) (h : BytAt f (wordNums x 8) bt 8 σ) (a : Int) (ha : a + 128 = f) (i : Nat) (hi : i < 8) :
    σ.load (a + i) 1 = if bt i then (.num ((wordNums x 8).getD i 0), 0) else (.nil, 220) := by
  unfold Stk.load
  have hin : stkIn (a + i) 1 = true := by unfold stkIn; rw [decide_eq_true_eq]; omega
  have hset : σ.allSet (f + i) 1 = bt i := by
    unfold Stk.allSet Stk.allSet
    rw [Nat.add_zero, h.set i hi]
    simp [hi]
  have hr : σ.read (f + i) 1 = if bt i then (σ.text (f + i) 1, 0) else (⟨#[]⟩, 220) := by
    unfold Stk.read
    rw [if_neg (by rw [no_sp h.no]; simp), hset]
  rw [if_neg (by simp [hin]), if_neg (by rw [sp_nil h.no]; simp [AV.no]), show (a + (i : Int) + 128).toNat = f + i by omega, show (1 : Int).toNat = 1 by rfl, hr]
  cases hb : bt i with
  | false => rfl
  | true =>
    rw [if_pos rfl, if_pos rfl, if_pos rfl]
    have h1 := h.byte i hi hi hb
    have ht : σ.text (f + i) 1 = strOfNums [(wordNums x 8).getD i 0] := by
      unfold Stk.text
      congr 1
      rw [← h1, List.take_one, List.head?_drop, List.getD_eq_getElem?_getD, List.getElem?_eq_getElem (by rw [h.ok.b]; omega)]
      rfl
    rw [ht]
    have hrg := wordNums_range x 8 ((wordNums x 8).getD i 0) (by
      rw [List.getD_eq_getElem?_getD, List.getElem?_eq_getElem (by rw [wordNums_length]; exact hi)]
      exact List.getElem_mem _)
    rw [get_one _ hrg.1 hrg.2]

theorem byt_set (hf : f + 8 ≤ 128) (h : BytAt f (wordNums x 8) bt 8 σ) (a : Int) (ha : a + 128 = f) (i : Nat) (hi : i < 8) : σ.setAt (a + i) = bt i := by
  unfold Stk.setAt
  rw [decide_eq_true (show -128 ≤ a + (i : Int) ∧ a + (i : Int) < 0 by omega), show (a + (i : Int) + 128).toNat = f + i by omega, h.set i hi]
  simp [hi]

theorem byt_bytes (hf : f + 8 ≤ 128) (h : BytAt f (wordNums x 8) bt 8 σ) (a : Int) (ha : a + 128 = f) : σ.bytesAt a 8 = if allBt bt 8 then (strOfNums (wordNums x 8), 0) else (⟨#[]⟩, 220) := by
  unfold Stk.bytesAt
  rw [if_neg (by omega), if_neg (by omega), show (a + 128).toNat = f by omega, show (8 : Int).toNat = 8 by rfl, byt_read hf h]

theorem fn_store (hf : f + 8 ≤ 128) (hf8 : f % 8 = 0) (a : Int) (ha : a + 128 = f) : σ.store a 8 (.fn 3) = (σ.spill f (.fn 3), 0) := by
  unfold Stk.store
  have hi : stkIn a 8 = true := by unfold stkIn; rw [decide_eq_true_eq]; omega
  rw [if_neg (by simp [hi]), if_neg (by simp [AV.is])]
  simp only [AV.numOf]
  rw [if_pos ⟨trivial, by omega⟩, show (a + 128).toNat = f by omega]

theorem spill_slot (hl : σ.l.length = 16) (hf : f + 8 ≤ 128) (v : AV) : (σ.spill f v).slot (f / 8) = v := by
  unfold Stk.spill Stk.slot
  rw [getD_set _ _ _ _ _ (by omega), if_pos rfl]

theorem fn_load (hl : σ.l.length = 16) (hf : f + 8 ≤ 128) (hf8 : f % 8 = 0) (a : Int) (ha : a + 128 = f) : (σ.spill f (.fn 3)).load a 8 = (.fn 3, 0) := by
  unfold Stk.load
  have hi : stkIn a 8 = true := by unfold stkIn; rw [decide_eq_true_eq]; omega
  have hs : (σ.spill f (.fn 3)).spAt a = .fn 3 := by
    unfold Stk.spAt
    rw [if_pos (by omega), show ((a + 128) / 8).toNat = f / 8 by omega, spill_slot hl hf]
  rw [if_neg (by simp [hi]), hs, if_pos ⟨rfl, rfl⟩]

theorem fn_one (hl : σ.l.length = 16) (hf : f + 8 ≤ 128) (hf8 : f % 8 = 0) (a : Int) (ha : a + 128 = f) (i : Nat) (hi : i < 8) : (σ.spill f (.fn 3)).load (a + i) 1 = (.nil, 221) := by
  unfold Stk.load
  have hin : stkIn (a + i) 1 = true := by unfold stkIn; rw [decide_eq_true_eq]; omega
  have hr : (σ.spill f (.fn 3)).read (f + i) 1 = (⟨#[]⟩, 221) := by
    unfold Stk.read
    rw [if_pos (Stk.anySp_of (k := 0) (by omega) (by rw [show (f + i + 0) / 8 = f / 8 by omega, spill_slot hl hf]; rfl))]
  rw [if_neg (by simp [hin]), if_neg (by omega), show (a + (i : Int) + 128).toNat = f + i by omega, show (1 : Int).toNat = 1 by rfl, hr]
  rfl
end

theorem byt_step (f : Nat) (t : List Int) (bt : Nat → Bool) (hf : f + 8 ≤ 128) (a : Int) (ha : a + 128 = f) (k : Nat) (hk : k < 8) (hb : bt k = true) :
    (byt f t bt k).store (a + k) 1 (.num (t.getD k 0)) = (byt f t bt (k + 1), 0) := by
  unfold Stk.store
  have hi : stkIn (a + k) 1 = true := by unfold stkIn; rw [decide_eq_true_eq]; omega
  rw [if_neg (by simp [hi]), if_neg (by simp [AV.is])]
  simp only [AV.numOf]
  rw [show (a + (k : Int) + 128).toNat = f + k by omega, show (1 : Int).toNat = 1 by rfl]
  conv => rhs; unfold byt
  rw [if_pos hb]

theorem and_one (z : Int) (h0 : 0 ≤ z) (h1 : z < 256) : bits .and .u8 z 1 = z % 2 := by
  have h : ∀ n : Fin 256, bits .and .u8 ((n : Nat) : Int) 1 = ((n : Nat) : Int) % 2 := by decide
  obtain ⟨n, rfl⟩ := Int.eq_ofNat_of_zero_le h0
  exact h ⟨n, by omega⟩

theorem str_at (t : List Int) (ht : ∀ y ∈ t, 0 ≤ y ∧ y < 256) (k : Nat) (h : k < (strOfNums t).size) : IntKind.u64.wrap (((strOfNums t)[k]'h).toNat : Int) = t.getD k 0 := by
  have hk : k < t.length := by rw [strOfNums_size_] at h; exact h
  have h2 := ht t[k] (List.getElem_mem hk)
  rw [List.getD_eq_getElem?_getD, List.getElem?_eq_getElem hk, Option.getD_some]
  have : (((strOfNums t)[k]'h).toNat : Int) = t[k] := by
    simp [strOfNums, ByteArray.getElem_eq_getElem_data]
    omega
  rw [this, wrap_u64 h2.1 (by omega)]

end Go.Proofs.Ytcddpmiandgkjaa
