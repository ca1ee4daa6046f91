/- NameOrder in plain Lean: the order of texts is one. -/
import Derived.Test.YtmoememioelddaaHNameOrderx1
import Derived.Test.YtmoememioelddaaNameText
import Derived.Test.YtmoememioelddaaWf
import Derived.Test.YtmoememioelddaaNameOrder
import Derived.Test.YtmoememioelddaaNameWords
namespace Go.Proofs.Ytmoememioelddaa.Pure
open Go.RowKit Go.Proofs.Ytmoememioelddaa.HNameOrder Go.Proofs.YtmoememioelddaaW.PrintWords Go.Proofs.YtmoememioelddaaW.PrintLast

theorem alive_true : wardenlaw09_alive.f = some true := by decide +kernel

theorem cmp_of (a b : ByteArray) : nameCompare a b = if decide (0 ≤ runesOf a) = decide (0 ≤ runesOf b) then Lib.compareBytes a.data.toList b.data.toList else if 0 ≤ runesOf a then -1 else 1 := rfl

theorem toList_data (a : ByteArray) : a.toList = a.data.toList := ByteArray.toList_eq a

theorem order_anti (a b : ByteArray) : nameCompare a b = - nameCompare b a := by
  rw [cmp_of, cmp_of]
  by_cases h : decide (0 ≤ runesOf a) = decide (0 ≤ runesOf b)
  · rw [if_pos h, if_pos h.symm, cmp_anti]
  · rw [if_neg h, if_neg (Ne.symm h)]
    by_cases h1 : 0 ≤ runesOf a
    · have h2 : ¬ 0 ≤ runesOf b := fun h2 => h (by rw [decide_eq_true h1, decide_eq_true h2])
      rw [if_pos h1, if_neg h2]
    · have h2 : 0 ≤ runesOf b := Decidable.byContradiction fun h2 => h (by rw [decide_eq_false h1, decide_eq_false h2])
      rw [if_neg h1, if_pos h2]
      rfl

theorem order_zero (a b : ByteArray) : nameCompare a b = 0 ↔ a = b := by
  rw [cmp_of]
  by_cases h : decide (0 ≤ runesOf a) = decide (0 ≤ runesOf b)
  · rw [if_pos h, cmp_zero]
    constructor
    · intro e
      exact ByteArray.ext (Array.toList_inj.1 e)
    · rintro rfl
      rfl
  · rw [if_neg h]
    constructor
    · intro e
      split at e <;> omega
    · rintro rfl
      exact (h rfl).elim

theorem order_trans (a b c : ByteArray) (h : nameCompare a b ≤ 0) (k : nameCompare b c ≤ 0) : nameCompare a c ≤ 0 := by
  rw [cmp_of] at h k ⊢
  by_cases ha : 0 ≤ runesOf a <;> by_cases hb : 0 ≤ runesOf b <;> by_cases hc : 0 ≤ runesOf c <;> simp only [ha, hb, hc, decide_true, decide_false, if_true, if_false, Bool.true_eq_false, Bool.false_eq_true] at h k ⊢ <;> first | exact cmp_trans _ _ _ h k | omega

theorem order_range (a b : ByteArray) : nameCompare a b = -1 ∨ nameCompare a b = 0 ∨ nameCompare a b = 1 := by
  rw [cmp_of]
  split
  · exact cmp_range _ _
  · split
    · exact .inl rfl
    · exact .inr (.inr rfl)

theorem text_of_runes {a : ByteArray} (h : 0 ≤ runesOf a) : ∃ rs, Text a 0 rs := by
  rcases text_or a a.size 0 rfl (by omega) with h1 | h1
  · exact h1
  · rw [runes_bad h1] at h; omega

theorem runes_add {a b : ByteArray} (ha : 0 ≤ runesOf a) (hb : 0 ≤ runesOf b) : 0 ≤ runesOf (a ++ b) := by
  obtain ⟨rs, h⟩ := text_of_runes ha
  obtain ⟨ts, g⟩ := text_of_runes hb
  have e : a ++ b = bytesR (rs ++ ts) := by rw [of_text h, of_text g, bytesR_append]
  have ht : Text (a ++ b) 0 (rs ++ ts) := by
    rw [e]
    refine text_bytesR fun c hc => ?_
    rcases List.mem_append.1 hc with hc | hc
    · exact h.2.1 c hc
    · exact g.2.1 c hc
  rw [runes_text ht]
  omega

theorem cmp_prefix (l m : List UInt8) (h : m ≠ []) : Lib.compareBytes l (l ++ m) = -1 := by
  have := cmp_same l [] m
  rw [List.append_nil] at this
  rw [this]
  cases m with
  | nil => exact (h rfl).elim
  | cons x m => rfl

theorem NameOrder : wardenlaw09_NameOrder.Pure := by
  intro a b c ha hb hc
  have big : wardenlaw09_NameOrder.j0 3 a b c true = some true := by
    simp only [wardenlaw09_NameOrder.j0, if_true]
    rw [alive_true]
    rfl
  refine ⟨3, ?_⟩
  unfold wardenlaw09_NameOrder.f
  by_cases h1 : (a.size : Int) > 2048
  · rw [if_pos h1]; exact big
  · rw [if_neg h1]
    by_cases h2 : (b.size : Int) > 2048
    · rw [if_pos h2]; exact big
    · rw [if_neg h2]
      by_cases h3 : (c.size : Int) > 2048
      · rw [decide_eq_true h3]; exact big
      · rw [decide_eq_false h3]
        have cf : ∀ x y : ByteArray, x.size ≤ 10000 → y.size ≤ 10000 → name_Compare.f x y = some (nameCompare x y) := fun x y hx hy => if_pos ⟨by omega, by omega⟩
        have rf : ∀ x : ByteArray, x.size ≤ 10000 → name_Runes.f x = some (runesOf x) := fun x hx => if_pos (by omega)
        have hk := order_range a b
        have hw : ∀ x : Int, (x = -1 ∨ x = 0 ∨ x = 1) → wrap64 (-x) = -x := fun x hx => by unfold wrap64; omega
        have ez : ((nameCompare a b == 0) != (a.toList == b.toList)) = false := by
          have := order_zero a b
          by_cases e : a = b
          · rw [this.2 e, e]; simp
          · have e1 : (nameCompare a b == 0) = false := by rw [beq_eq_false_iff_ne]; exact fun q => e (this.1 q)
            have e2 : (a.toList == b.toList) = false := by
              rw [beq_eq_false_iff_ne, toList_data, toList_data]
              exact fun q => e (ByteArray.ext (Array.toList_inj.1 q))
            rw [e1, e2]
            rfl
        have j2t : wardenlaw09_NameOrder.j2 1 a b (nameCompare a b) (decide (0 ≤ runesOf a) && decide (runesOf b ≥ 0)) = some true := by
          simp only [wardenlaw09_NameOrder.j2]
          by_cases va : 0 ≤ runesOf a
          · by_cases vb : 0 ≤ runesOf b
            · rw [decide_eq_true va, decide_eq_true vb]
              simp only [Bool.and_true, if_true]
              have hn : nameCompare a b = Lib.compareBytes a.data.toList b.data.toList := by rw [cmp_of, if_pos (by simp [va, vb])]
              have e1 : ((decide (nameCompare a b < 0)) != (Op.bytesLess a.toList b.toList)) = false := by
                rw [less_cmp, hn, toList_data, toList_data]
                simp
              rw [e1]
              simp only [Bool.false_eq_true, if_false]
              by_cases vn : b.toList = ([] : List UInt8)
              · rw [if_pos vn, alive_true]; rfl
              · have vab := runes_add va vb
                have e2 : nameCompare a (a ++ b) = -1 := by
                  rw [cmp_of, if_pos (by simp [va, vab]), ByteArray.data_append, Array.toList_append]
                  exact cmp_prefix _ _ (by rw [← toList_data]; exact vn)
                rw [if_neg vn, if_pos (by omega), cf _ _ (by omega) (by rw [ByteArray.size_append]; omega), e2, alive_true]
                rfl
            · rw [decide_eq_false vb]
              simp only [Bool.and_false, Bool.false_eq_true, if_false]
              rw [alive_true]; rfl
          · rw [decide_eq_false va]
            simp only [Bool.false_and, Bool.false_eq_true, if_false]
            rw [alive_true]; rfl
        have j1f : wardenlaw09_NameOrder.j1 2 a b (nameCompare a b) false = some true := by
          simp only [wardenlaw09_NameOrder.j1, Bool.false_eq_true, if_false]
          rw [rf a (by omega), rf b (by omega)]
          simp only [Option.bind_some]
          by_cases va : runesOf a ≥ 0
          · rw [if_pos va]
            rw [decide_eq_true (show 0 ≤ runesOf a from va), Bool.true_and] at j2t
            exact j2t
          · rw [if_neg va]
            rw [decide_eq_false (show ¬ 0 ≤ runesOf a from va), Bool.false_and] at j2t
            exact j2t
        simp only [wardenlaw09_NameOrder.j0, Bool.false_eq_true, if_false]
        rw [cf a b (by omega) (by omega), cf b a (by omega) (by omega), cf b c (by omega) (by omega), cf a c (by omega) (by omega)]
        simp only [Option.bind_some]
        rw [hw _ (order_range b a), if_pos (order_anti a b), ez]
        simp only [Bool.false_eq_true, if_false]
        by_cases k1 : nameCompare a b ≤ 0
        · rw [if_pos k1]
          by_cases k2 : nameCompare b c ≤ 0
          · have := order_trans a b c k1 k2
            rw [if_pos k2, decide_eq_false (by omega)]
            exact j1f
          · rw [if_neg k2]; exact j1f
        · rw [if_neg k1]; exact j1f

end Go.Proofs.Ytmoememioelddaa.Pure
