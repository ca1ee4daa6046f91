import Derived.Test.YtmoememioelddaaNameOrder
import Derived.Test.YtmoememioelddaaNameWords
/-! Names with a blank behind each, read again. -/
namespace Go.Proofs.Ytmoememioelddaa
open Go.RowKit

theorem may_words {rs : List Nat} (h : mayR rs = true) : rs ≠ [] ∧ ∀ c ∈ rs, noWord c = false := by
  cases rs with
  | nil => cases h
  | cons c rs =>
    refine ⟨by simp, ?_⟩
    have h : (decide (rs.length < 32) && isLetter (c : Int) && rs.all wordRune) = true := h
    simp only [Bool.and_eq_true, decide_eq_true_eq, List.all_eq_true] at h
    intro d hd
    have nw : ∀ x, wordRune x = true → noWord x = false := fun x hx => by
      unfold wordRune at hx
      unfold noWord
      cases h1 : isLetter (x : Int) <;> cases h2 : isDigit (x : Int) <;> rw [h1, h2] at hx <;> simp at hx ⊢
    rcases List.mem_cons.1 hd with rfl | hd
    · unfold noWord
      rw [h.1.2]
      rfl
    · exact nw d (h.2 d hd)

theorem fields_run (more : List Nat) : ∀ (rs cur : List Nat), (∀ c ∈ rs, noWord c = false) → fieldsR cur (rs ++ more) = fieldsR (cur ++ rs) more := by
  intro rs
  induction rs with
  | nil => intro cur _; simp
  | cons c rs ih =>
    intro cur h
    rw [List.cons_append]
    show (if noWord c then _ else fieldsR (cur ++ [c]) (rs ++ more)) = _
    rw [h c (by simp)]
    simp only [Bool.false_eq_true, if_false]
    rw [ih (cur ++ [c]) (fun d hd => h d (by simp [hd])), List.append_assoc]
    rfl

theorem blank : noWord 32 = true := by decide +kernel

theorem fields_blank {rs : List Nat} (h : mayR rs = true) (more : List Nat) : fieldsR [] (rs ++ 32 :: more) = rs :: fieldsR [] more := by
  obtain ⟨h1, h2⟩ := may_words h
  rw [fields_run _ _ _ h2, List.nil_append]
  show (if noWord 32 then (if rs = [] then _ else rs :: fieldsR [] more) else _) = _
  rw [blank, if_pos rfl, if_neg h1]

theorem fields_one {rs : List Nat} (h : mayR rs = true) : fieldsR [] rs = [rs] := by
  obtain ⟨h1, h2⟩ := may_words h
  have := fields_run [] rs [] h2
  rw [List.append_nil, List.nil_append] at this
  rw [this]
  show (if rs = [] then [] else [rs]) = _
  rw [if_neg h1]

theorem may_runes {t : ByteArray} (h : nameMay t = true) : ∃ rs, Text t 0 rs ∧ mayR rs = true := by
  rcases text_or t t.size 0 rfl (by omega) with ⟨rs, ht⟩ | hb
  · exact ⟨rs, ht, by rw [← may_text ht]; exact h⟩
  · rw [may_bad hb] at h; cases h

theorem words_one {t : ByteArray} (h : nameMay t = true) : nameWords t = [t] := by
  obtain ⟨rs, ht, hm⟩ := may_runes h
  rw [words_text ht, fields_one hm, List.filter_cons, hm]
  simp [of_text ht]

theorem words_may {s : ByteArray} : ∀ t ∈ nameWords s, nameMay t = true := by
  intro t ht
  unfold nameWords at ht
  split at ht
  · simp at ht
  · exact (List.mem_filter.1 ht).2

theorem text_app {s t : ByteArray} {rs ts : List Nat} (h : Text s 0 rs) (g : Text t 0 ts) : Text (s ++ t) 0 (rs ++ ts) := by
  have e : s ++ t = bytesR (rs ++ ts) := by rw [of_text h, of_text g, bytesR_append]
  rw [e]
  refine text_bytesR fun c hc => ?_
  rcases List.mem_append.1 hc with hc | hc
  · exact h.2.1 c hc
  · exact g.2.1 c hc

def blankS : ByteArray := ⟨#[32]⟩
theorem blank_text : Text blankS 0 [32] := by
  have e : blankS = bytesR [32] := by decide +kernel
  rw [e]
  exact text_bytesR (by decide)

/-- The first k words, with a blank behind each. -/
def joinW (l : List ByteArray) : ByteArray := l.foldl (fun acc t => acc ++ t ++ blankS) ⟨#[]⟩

theorem joinW_snoc (l : List ByteArray) (t : ByteArray) : joinW (l ++ [t]) = joinW l ++ t ++ blankS := by
  unfold joinW
  rw [List.foldl_append]
  rfl

theorem joinW_text (l : List ByteArray) (h : ∀ t ∈ l, nameMay t = true) : ∃ R : List (List Nat), l = R.map bytesR ∧ (∀ r ∈ R, mayR r = true) ∧ Text (joinW l) 0 (R.flatMap (fun r => r ++ [32])) := by
  have key : ∀ n (l : List ByteArray), l.length = n → (∀ t ∈ l, nameMay t = true) → ∃ R : List (List Nat), l = R.map bytesR ∧ (∀ r ∈ R, mayR r = true) ∧ Text (joinW l) 0 (R.flatMap (fun r => r ++ [32])) := by
    intro n
    induction n with
    | zero =>
      intro l hl _
      have : l = [] := List.eq_nil_of_length_eq_zero hl
      subst this
      exact ⟨[], rfl, by simp, ⟨by simp [joinW], by simp, by omega⟩⟩
    | succ n ih =>
      intro l hl h
      obtain ⟨l', t, rfl⟩ : ∃ l' t, l = l' ++ [t] := ⟨l.dropLast, l.getLast (by intro e; rw [e] at hl; simp at hl), (List.dropLast_concat_getLast _).symm⟩
      obtain ⟨R, h1, h2, h3⟩ := ih l' (by simp at hl; omega) (fun t ht => h t (by simp [ht]))
      obtain ⟨rs, ht, hm⟩ := may_runes (h t (by simp))
      refine ⟨R ++ [rs], ?_, ?_, ?_⟩
      · rw [List.map_append, h1, of_text ht]
        rfl
      · intro r hr
        rcases List.mem_append.1 hr with hr | hr
        · exact h2 r hr
        · rw [List.mem_singleton] at hr
          subst hr
          exact hm
      · rw [joinW_snoc, List.flatMap_append]
        have := text_app (text_app h3 ht) blank_text
        simpa using this
  exact key _ l rfl h

theorem words_join (l : List ByteArray) (h : ∀ t ∈ l, nameMay t = true) : nameWords (joinW l) = l := by
  obtain ⟨R, h1, h2, h3⟩ := joinW_text l h
  rw [words_text h3]
  have e : fieldsR [] (R.flatMap (fun r => r ++ [32])) = R := by
    clear h1 h3
    induction R with
    | nil => rfl
    | cons r R ih =>
      rw [List.flatMap_cons, List.append_assoc]
      show fieldsR [] (r ++ 32 :: R.flatMap (fun r => r ++ [32])) = _
      rw [fields_blank (h2 r (by simp)), ih (fun x hx => h2 x (by simp [hx]))]
  have f : R.filter mayR = R := List.filter_eq_self.2 h2
  rw [e, f, ← h1]

theorem words_pair {a b : ByteArray} (ha : nameMay a = true) (hb : nameMay b = true) : nameWords (a ++ blankS ++ b) = [a, b] := by
  obtain ⟨rs, hr, hm⟩ := may_runes ha
  obtain ⟨ts, ht, hn⟩ := may_runes hb
  rw [words_text (text_app (text_app hr blank_text) ht), List.append_assoc]
  show ((fieldsR [] (rs ++ 32 :: ts)).filter mayR).map bytesR = _
  rw [fields_blank hm, fields_one hn, List.filter_cons, hm, List.filter_cons, hn]
  simp [of_text hr, of_text ht]

theorem words_not {a : ByteArray} (h : nameMay a = false) : nameWords a ≠ [a] := by
  intro e
  have := words_may a (by rw [e]; simp)
  rw [h] at this
  cases this

/-- How many bytes the words have, all together. -/
theorem fields_total : ∀ (rs cur : List Nat), ((fieldsR cur rs).map fun f => (f.flatMap encL).length).sum ≤ (cur.flatMap encL).length + (rs.flatMap encL).length := by
  intro rs
  induction rs with
  | nil =>
    intro cur
    show ((if cur = [] then [] else [cur] : List (List Nat)).map _).sum ≤ _
    split <;> simp
  | cons r rs ih =>
    intro cur
    have h0 := ih []
    have h1 := ih (cur ++ [r])
    show ((if noWord r then (if cur = [] then fieldsR [] rs else cur :: fieldsR [] rs) else fieldsR (cur ++ [r]) rs).map _).sum ≤ _
    rw [List.flatMap_cons, List.length_append]
    split
    · split
      · simp only [List.flatMap_nil, List.length_nil] at h0
        omega
      · rw [List.map_cons, List.sum_cons]
        simp only [List.flatMap_nil, List.length_nil] at h0
        omega
    · rw [List.flatMap_append, List.length_append] at h1
      simp only [List.flatMap_cons, List.flatMap_nil, List.append_nil] at h1
      omega

theorem sum_filter (R : List (List Nat)) : ((R.filter mayR).map fun f => (f.flatMap encL).length).sum ≤ (R.map fun f => (f.flatMap encL).length).sum := by
  induction R with
  | nil => simp
  | cons f R ih =>
    rw [List.filter_cons]
    split
    · rw [List.map_cons, List.map_cons, List.sum_cons, List.sum_cons]; omega
    · rw [List.map_cons, List.sum_cons]; omega

theorem joinW_size (l : List ByteArray) : (joinW l).size = (l.map fun t => t.size).sum + l.length := by
  have key : ∀ (l : List ByteArray) (acc : ByteArray), (l.foldl (fun acc t => acc ++ t ++ blankS) acc).size = acc.size + (l.map fun t => t.size).sum + l.length := by
    intro l
    induction l with
    | nil => intro acc; simp
    | cons t l ih =>
      intro acc
      rw [List.foldl_cons, ih, ByteArray.size_append, ByteArray.size_append, List.map_cons, List.sum_cons, List.length_cons]
      show acc.size + t.size + 1 + _ + _ = _
      omega
  have := key l ⟨#[]⟩
  unfold joinW
  rw [this]
  show 0 + _ + _ = _
  omega

theorem words_total (s : ByteArray) : ((nameWords s).map fun t => t.size).sum ≤ s.size := by
  rcases text_or s s.size 0 rfl (by omega) with ⟨rs, h⟩ | h
  · rw [words_text h, List.map_map]
    have e : ((fun t : ByteArray => t.size) ∘ bytesR) = fun f : List Nat => (f.flatMap encL).length := by
      funext f
      exact bytesR_size f
    rw [e]
    have h1 := sum_filter (fieldsR [] rs)
    have h2 := fields_total rs []
    have h3 : s.size = (rs.flatMap encL).length := by rw [of_text h]; exact bytesR_size rs
    simp only [List.flatMap_nil, List.length_nil] at h2
    omega
  · rw [words_bad h]
    simp

theorem sum_take (l : List ByteArray) (k : Nat) : ((l.take k).map fun t => t.size).sum ≤ (l.map fun t => t.size).sum := by
  induction l generalizing k with
  | nil => simp
  | cons t l ih =>
    cases k with
    | zero => simp
    | succ k =>
      rw [List.take_succ_cons, List.map_cons, List.map_cons, List.sum_cons, List.sum_cons]
      have := ih k
      omega

end Go.Proofs.Ytmoememioelddaa
