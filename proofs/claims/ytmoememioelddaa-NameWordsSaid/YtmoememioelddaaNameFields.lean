import Derived.Test.YtmoememioelddaaNameText
/-! The words of a valid text, as rows of runes. -/
namespace Go.Proofs.Ytmoememioelddaa
open Go.RowKit

def bytesR (rs : List Nat) : ByteArray := ⟨(rs.flatMap encL).toArray⟩

theorem bytesR_list (rs : List Nat) : (bytesR rs).data.toList = rs.flatMap encL := by simp [bytesR]

theorem bytesR_size (rs : List Nat) : (bytesR rs).size = (rs.flatMap encL).length := by
  show (rs.flatMap encL).toArray.size = _
  simp

theorem text_bytesR {rs : List Nat} (h : ∀ c ∈ rs, validN c = true) : Text (bytesR rs) 0 rs := ⟨by rw [bytesR_list]; rfl, h, by omega⟩

theorem of_text {s : ByteArray} {rs : List Nat} (h : Text s 0 rs) : s = bytesR rs := by
  apply ByteArray.ext
  apply Array.toList_inj.1
  rw [bytesR_list]
  exact h.1

theorem bytesR_append (rs ts : List Nat) : bytesR rs ++ bytesR ts = bytesR (rs ++ ts) := by
  apply ByteArray.ext
  apply Array.toList_inj.1
  rw [bytesR_list, List.flatMap_append]
  simp [bytesR_list, ByteArray.data_append]

theorem bytesR_inj {rs ts : List Nat} (h : ∀ c ∈ rs, validN c = true) (k : ∀ c ∈ ts, validN c = true) (e : bytesR rs = bytesR ts) : rs = ts :=
  (text_bytesR h).uniq (e ▸ text_bytesR k)

/-- From a to i, s holds just the runes cur. -/
def Span (s : ByteArray) (a i : Nat) (cur : List Nat) : Prop := a ≤ i ∧ i ≤ s.size ∧ s.data.toList.drop a = cur.flatMap encL ++ s.data.toList.drop i

theorem Span.extract {s : ByteArray} {a i : Nat} {cur : List Nat} (h : Span s a i cur) : s.extract a i = bytesR cur := by
  obtain ⟨h1, h2, h3⟩ := h
  apply ByteArray.ext
  apply Array.toList_inj.1
  rw [bytesR_list, ByteArray.data_extract, Array.toList_extract, List.extract_eq_take_drop, h3]
  have hl := congrArg List.length h3
  simp only [List.length_drop, List.length_append] at hl
  have hs : s.data.toList.length = s.size := Array.length_toList
  rw [show i - a = (cur.flatMap encL).length by omega, List.take_left]

theorem Span.one {s : ByteArray} {i c : Nat} {rs : List Nat} (h : Text s i (c :: rs)) : Span s i (i + (encL c).length) [c] := by
  have ht := h.cons.2.2.2.1
  refine ⟨by omega, ht.2.2, ?_⟩
  rw [h.1, ht.1, List.flatMap_cons]
  simp

theorem Span.snoc {s : ByteArray} {a i c : Nat} {cur rs : List Nat} (h : Span s a i cur) (ht : Text s i (c :: rs)) : Span s a (i + (encL c).length) (cur ++ [c]) := by
  have h1 := Span.one ht
  refine ⟨by have := h.1; omega, h1.2.1, ?_⟩
  rw [h.2.2, h1.2.2, List.flatMap_append, List.append_assoc]

/-- The rows of word runes. -/
def fieldsR : List Nat → List Nat → List (List Nat)
  | cur, [] => if cur = [] then [] else [cur]
  | cur, r :: rs => if noWord r then (if cur = [] then fieldsR [] rs else cur :: fieldsR [] rs) else fieldsR (cur ++ [r]) rs

theorem fieldsR_valid : ∀ {rs cur : List Nat}, (∀ c ∈ cur, validN c = true) → (∀ c ∈ rs, validN c = true) → ∀ f ∈ fieldsR cur rs, ∀ c ∈ f, validN c = true := by
  intro rs
  induction rs with
  | nil =>
    intro cur hc hr f hf
    unfold fieldsR at hf
    split at hf
    · simp at hf
    · rw [List.mem_singleton] at hf
      subst hf
      exact hc
  | cons r rs ih =>
    intro cur hc hr f hf
    have hr2 : ∀ c ∈ rs, validN c = true := fun c h => hr c (by simp [h])
    unfold fieldsR at hf
    split at hf
    · split at hf
      · exact ih (by simp) hr2 f hf
      · rcases List.mem_cons.1 hf with rfl | hf
        · exact hc
        · exact ih (by simp) hr2 f hf
    · refine ih (fun c h => ?_) hr2 f hf
      rcases List.mem_append.1 h with h | h
      · exact hc c h
      · exact hr c (by simp at h; simp [h])

def stOk (s : ByteArray) (i : Nat) (cur : List Nat) : Option Nat → Prop
  | none => cur = []
  | some a => cur ≠ [] ∧ Span s a i cur

theorem spans_text {s : ByteArray} : ∀ {rs cur : List Nat} {i f : Nat} {st : Option Nat} {acc : List (Nat × Nat)}, Text s i rs → stOk s i cur st → s.size ≤ i + f →
    (Lib.closeSpans s (Lib.spansFromP noWord s f i st acc)).map (fun x => s.extract x.1 x.2) = acc.map (fun x => s.extract x.1 x.2) ++ (fieldsR cur rs).map bytesR := by
  intro rs
  induction rs with
  | nil =>
    intro cur i f st acc h hst hf
    have hi := h.nil
    rw [Lib.spansFromP_end _ _ _ _ _ _ (by omega)]
    cases st with
    | none =>
      have hc : cur = [] := hst
      subst hc
      simp [Lib.closeSpans, fieldsR]
    | some a =>
      obtain ⟨hc, hsp⟩ := hst
      rw [hi] at hsp
      simp [Lib.closeSpans, fieldsR, hc, hsp.extract]
  | cons c rs ih =>
    intro cur i f st acc h hst hf
    obtain ⟨hi, hb, hd, ht, hv⟩ := h.cons
    have hp := encL_pos c
    obtain ⟨f, rfl⟩ : ∃ g, f = g + 1 := ⟨f - 1, by omega⟩
    unfold Lib.spansFromP fieldsR
    rw [if_pos hi, hd]
    cases hw : noWord c with
    | true =>
      simp only [if_true]
      cases st with
      | none =>
        have hc : cur = [] := hst
        rw [if_pos hc]
        exact ih (cur := []) ht rfl (by omega)
      | some a =>
        obtain ⟨hc, hsp⟩ := hst
        rw [if_neg hc]
        have h2 := ih (cur := []) (st := none) (acc := acc ++ [(a, i)]) (f := f) ht rfl (by omega)
        rw [h2, List.map_append, List.append_assoc]
        simp [hsp.extract]
    | false =>
      simp only [Bool.false_eq_true, if_false]
      cases st with
      | none =>
        have hc : cur = [] := hst
        subst hc
        exact ih (cur := [c]) ht ⟨by simp, Span.one h⟩ (by omega)
      | some a =>
        obtain ⟨hc, hsp⟩ := hst
        exact ih (cur := cur ++ [c]) ht ⟨by simp, hsp.snoc h⟩ (by omega)

theorem fields_text {s : ByteArray} {rs : List Nat} (h : Text s 0 rs) : Lib.goFieldsP noWord s = (fieldsR [] rs).map bytesR := by
  unfold Lib.goFieldsP Lib.spansOfP
  rw [spans_text (cur := []) (st := none) h rfl (by omega)]
  rfl

theorem filter_bytesR (l : List (List Nat)) (h : ∀ f ∈ l, ∀ c ∈ f, validN c = true) : (l.map bytesR).filter nameMay = (l.filter mayR).map bytesR := by
  induction l with
  | nil => rfl
  | cons f l ih =>
    have hm : nameMay (bytesR f) = mayR f := may_text (text_bytesR (h f (by simp)))
    rw [List.map_cons, List.filter_cons, List.filter_cons, hm, ih fun g hg => h g (by simp [hg])]
    cases mayR f <;> simp

theorem words_text {s : ByteArray} {rs : List Nat} (h : Text s 0 rs) : nameWords s = ((fieldsR [] rs).filter mayR).map bytesR := by
  unfold nameWords
  rw [runes_text h, if_neg (by omega), fields_text h, filter_bytesR _ (fieldsR_valid (by simp) h.2.1)]

theorem words_bad {s : ByteArray} (h : BadFrom s 0) : nameWords s = [] := by
  unfold nameWords
  rw [runes_bad h, if_pos (by decide)]

end Go.Proofs.Ytmoememioelddaa
