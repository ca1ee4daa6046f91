import Derived.Test.YtjhfhognacjipaaMaps
import Derived.Laws.IdiomRangeMap
/-! Ranging over a map that a call made and keeps to itself, the iterator being any block; an entry that is sought, then looked up again. -/
namespace Go.Proofs.Ytjhfhognacjipaa
open Go.RowKit Go.Maps
open Go.ChangeMaps (modify_eq_set)

section
variable {P : Program} {w w' : World} {b it : Nat} {α : Type} {enc : α → Value} {ok : α → Prop} {l left : List (α × Value)} {kt et T : TypeId}

/-- Block 'it' ranges over the map at b, whose entries are l; 'left' are those that it has not handed out. -/
def RangeAt (w : World) (it b : Nat) (enc : α → Value) (ok : α → Prop) (l left : List (α × Value)) : Prop :=
  MapIs w b enc ok l ∧ it ≠ b ∧ ∃ es clock since seen c0, w.heap[b]? = some (.map es clock) ∧ w.heap[it]? = some (.mapIter (some b) since seen c0) ∧ (∀ x ∈ es.toList, x.born < since) ∧ since ≤ c0 ∧ since ≤ clock ∧
    ((leftOf es seen).toList.map fun e => (e.key, e.val)) = left.map (fun p => (enc p.1, p.2)) ∧ (left.map Prod.fst).Nodup ∧ ∀ p ∈ left, p ∈ l

theorem RangeAt.map (h : RangeAt w it b enc ok l left) : MapIs w b enc ok l := h.1
theorem RangeAt.lt (h : RangeAt w it b enc ok l left) : it < w.heap.size := by
  obtain ⟨_, _, es, clock, since, seen, c0, _, h, _⟩ := h
  exact (Array.getElem?_eq_some_iff.1 h).1
theorem RangeAt.kept (h : RangeAt w it b enc ok l left) (h1 : w'.heap[b]? = w.heap[b]?) (h2 : w'.heap[it]? = w.heap[it]?) : RangeAt w' it b enc ok l left := by
  obtain ⟨h0, hne, es, clock, since, seen, c0, hb, hi, rest⟩ := h
  exact ⟨h0.kept h1, hne, es, clock, since, seen, c0, h1.trans hb, h2.trans hi, rest⟩

theorem filter_born : ∀ (L : List MapEntry) (j : Nat) (e : MapEntry), (L.map (·.born)).Nodup → L[j]? = some e → L.filter (fun x => x.born != e.born) = L.eraseIdx j
  | [], _, _, _, h => by simp at h
  | x :: L, 0, e, hn, h => by
    simp at h
    subst h
    have hn' := List.nodup_cons.1 hn
    rw [List.filter_cons, if_neg (by simp)]
    show _ = L
    rw [List.filter_eq_self]
    intro y hy
    have : y.born ≠ x.born := fun e => hn'.1 (List.mem_map.2 ⟨y, hy, e⟩)
    simpa using this
  | x :: L, j + 1, e, hn, h => by
    have hn' := List.nodup_cons.1 hn
    have he : e ∈ L := List.mem_of_getElem? (by simpa using h)
    have hx : x.born ≠ e.born := fun e2 => hn'.1 (List.mem_map.2 ⟨e, he, e2.symm⟩)
    rw [List.filter_cons, if_pos (by simpa using hx), List.eraseIdx_cons_succ, filter_born L j e hn'.2 (by simpa using h)]

theorem leftOf_push (es : Array MapEntry) (seen : Array Nat) (hn : (es.toList.map (·.born)).Nodup) (j : Nat) (e : MapEntry) (h : (leftOf es seen).toList[j]? = some e) : (leftOf es (seen.push e.born)).toList = (leftOf es seen).toList.eraseIdx j := by
  have hn2 : ((leftOf es seen).toList.map (·.born)).Nodup := by
    unfold leftOf
    rw [Array.toList_filter]
    exact hn.sublist (List.filter_sublist.map _)
  rw [← filter_born _ j e hn2 h]
  unfold leftOf
  rw [Array.toList_filter, Array.toList_filter, List.filter_filter]
  apply List.filter_congr
  intro x _
  simp only [Array.contains_push]
  cases h1 : seen.contains x.born <;> cases h2 : (x.born == e.born) <;> simp_all

/-- 'range m': the iterator is laid. -/
theorem run_range (hT : P.underlying T = some (.map kt et)) (h : MapIs w b enc ok l) :
    ∃ w2, (Instr.range T (.map (some b))).run P w = .ok (.pointer (some ⟨w.heap.size, 0, none⟩)) w2 ∧ RangeAt w2 w.heap.size b enc ok l l ∧ Turned (fun _ => False) w w2 ∧ w2.heap.size = w.heap.size + 1 := by
  have h0 := h
  obtain ⟨es, clock, hb, hl, hn, ho, h5, h6⟩ := h
  have hlt := h0.lt
  refine ⟨_, run_range_map w T kt et b es clock hT hb, ⟨h0.alloc _, by omega, es, clock, clock, #[], clock, (Below.heap_alloc w _ b hlt).trans hb, heap_alloc_new w _, h6, Nat.le_refl _, Nat.le_refl _, ?_, hn, fun _ h => h⟩, (Turned.refl _ w).alloc _, by simp⟩
  rw [← hl]
  congr 2
  exact Array.filter_eq_self.2 (by simp)

/-- 'next': nothing is left, or an entry that is left comes out. -/
theorem run_next (ty : TypeId) (h : RangeAt w it b enc ok l left) :
    (left = [] ∧ (Instr.next (.pointer (some ⟨it, 0, none⟩)) false ty).run P w = .ok (.tuple #[.bool false]) w) ∨
    ∃ a v left' w2, (a, v) ∈ l ∧ left.Perm ((a, v) :: left') ∧ (Instr.next (.pointer (some ⟨it, 0, none⟩)) false ty).run P w = .ok (.tuple #[.bool true, enc a, v]) w2 ∧
      (∀ w3, w3.heap[b]? = w2.heap[b]? → w3.heap[it]? = w2.heap[it]? → (Instr.entry (.pointer (some ⟨it, 0, none⟩))).run P w3 = .ok (.tuple #[enc a, v]) w3) ∧
      RangeAt w2 it b enc ok l left' ∧ Turned (fun k => k = it) w w2 := by
  obtain ⟨h0, hne, es, clock, since, seen, c0, hb, hi, hold, hsc, hsk, hleft, hnd, hsub⟩ := h
  have hgo : (getObj it).run P w = .ok (.mapIter (some b) since seen c0) w := by simp [getObj, Sem.run, hi]
  have hgm : (getObj b).run P w = .ok (.map es clock) w := MapKept.run_getObj_map hb
  have hmem : ∀ x ∈ (leftOf es seen).toList, x.born < since := fun x hx => hold x (by simp [leftOf] at hx ⊢; exact hx.1)
  have e1 : (leftOf es seen).filter (fun x => decide (x.born < since)) = leftOf es seen := Array.filter_eq_self.2 (fun x hx => by simpa using hmem x (by simpa using hx))
  have e2 : (leftOf es seen).filter (fun x => decide (x.born ≥ since)) = #[] := by
    rw [Array.filter_eq_empty_iff]
    intro x hx
    have := hmem x (by simpa using hx)
    simp
    omega
  have ht := next_test_false seen es since c0 hold hsc
  by_cases hz : (leftOf es seen).size = 0
  · left
    have hz2 : leftOf es seen = #[] := Array.eq_empty_of_size_eq_zero hz
    refine ⟨?_, ?_⟩
    · rw [hz2] at hleft
      cases left with
      | nil => rfl
      | cons p r => simp at hleft
    · unfold leftOf at hz2
      simp only [Instr.next, Sem.run_bind, hgo, hgm, Result.andThen, ht, Bool.false_eq_true, if_false, hz2]
      simp [choose, Sem.run, Question.forced]
  · right
    have hne2 : (leftOf es seen).isEmpty = false := by simp [Array.isEmpty, hz]
    obtain ⟨j, w1, hj, hal, hrun⟩ : ∃ (j : Nat) (w1 : World), j < (leftOf es seen).size ∧ (w1 = w ∨ w1 = w.drew) ∧ (choose (Question.mapNext (leftOf es seen).size)).run P w = .ok j w1 := by
      by_cases hf : (leftOf es seen).size ≤ 1
      · exact ⟨0, w, by omega, Or.inl rfl, by simp [choose, Sem.run, Question.forced, hf]⟩
      · exact ⟨_, w.drew, Nat.mod_lt _ (by omega), Or.inr rfl, by
          simp only [choose, Sem.run, Question.forced, decide_eq_true_eq, hf, if_false, Question.cut]
          rfl⟩
    have hheap : w1.heap = w.heap := by rcases hal with rfl | rfl <;> rfl
    obtain ⟨e, he⟩ : ∃ e, (leftOf es seen)[j]? = some e := ⟨_, Array.getElem?_eq_getElem hj⟩
    have hel : (leftOf es seen).toList[j]? = some e := by simpa using he
    obtain ⟨p, hp, hk1, hk2⟩ : ∃ p, left[j]? = some p ∧ e.key = enc p.1 ∧ e.val = p.2 := by
      have h1 : ((leftOf es seen).toList.map fun e => (e.key, e.val))[j]? = some (e.key, e.val) := by rw [List.getElem?_map, hel]; rfl
      rw [hleft, List.getElem?_map] at h1
      obtain ⟨p, hp, e1⟩ := Option.map_eq_some_iff.1 h1
      simp only [Prod.mk.injEq] at e1
      exact ⟨p, hp, e1.1.symm, e1.2.symm⟩
    have hset : (setObj it (.mapIter (some b) since (seen.push e.born) clock)).run P w1 = .ok () (putObj w1 it (.mapIter (some b) since (seen.push e.born) clock)) := by
      have hi1 : w1.heap[it]? = some (.mapIter (some b) since seen c0) := by rw [hheap]; exact hi
      simp [setObj, Sem.run, hi1, putObj, ChangeMaps.setBlock]
    have hit : it < w1.heap.size := by rw [hheap]; exact (Array.getElem?_eq_some_iff.1 hi).1
    have ht1 : Turned (fun k => k = it) w w1 := by
      rcases hal with rfl | rfl
      · exact Turned.refl _ _
      · exact (Turned.refl _ _).drew
    have ht2 : Turned (fun k => k = it) w (putObj w1 it (.mapIter (some b) since (seen.push e.born) clock)) := ht1.trans (putObj_turned _ _ _)
    have hblt : b < w.heap.size := (Array.getElem?_eq_some_iff.1 hb).1
    have hb2 : (putObj w1 it (.mapIter (some b) since (seen.push e.born) clock)).heap[b]? = some (.map es clock) := (ht2.block b hblt (fun e => hne e.symm)).trans hb
    have hborn : (es.toList.map (·.born)).Nodup := by
      obtain ⟨es', clock', hb', _, _, _, h5, _⟩ := h0
      rw [hb] at hb'
      cases hb'
      exact h5
    have hees : e ∈ es.toList := by
      have := List.mem_of_getElem? hel
      simp [leftOf] at this ⊢
      exact this.1
    refine ⟨p.1, p.2, left.eraseIdx j, _, hsub p (List.mem_of_getElem? hp), ?_, ?_, ?_, ⟨h0.turned ht2 (fun e => hne e.symm), hne, es, clock, since, seen.push e.born, clock, hb2, putObj_at _ _ _ hit, hold, hsk, hsk, ?_, ?_, ?_⟩, ht2⟩
    · have hjl : j < left.length := (List.getElem?_eq_some_iff.1 hp).1
      have hd : left = left.take j ++ p :: left.drop (j + 1) := by
        have := (List.getElem?_eq_some_iff.1 hp).2
        rw [← this, List.getElem_cons_drop, List.take_append_drop]
      rw [List.eraseIdx_eq_take_drop_succ]
      conv => lhs; rw [hd]
      exact List.perm_middle
    · unfold leftOf at he hrun hne2 e1 e2
      simp only [Instr.next, Sem.run_bind, hgo, hgm, Result.andThen, ht, Bool.false_eq_true, if_false, e1, e2, Array.append_empty, hne2, Array.empty_append, Array.size_map, hrun, Array.getElem?_map, he, Option.map_some, hset]
      rw [hk1, hk2]
      rfl
    · intro w3 h3 h4
      have hb3 : w3.heap[b]? = some (.map es clock) := h3.trans hb2
      have hi3 : w3.heap[it]? = some (.mapIter (some b) since (seen.push e.born) clock) := h4.trans (putObj_at _ _ _ hit)
      have hf : es.find? (·.born == e.born) = some e := by rw [← Array.find?_toList]; exact find_born e es.toList hborn hees
      have hgo3 : (getObj it).run P w3 = .ok (.mapIter (some b) since (seen.push e.born) clock) w3 := by simp [getObj, Sem.run, hi3]
      simp only [Instr.entry, Sem.run_bind, hgo3, MapKept.run_getObj_map hb3, Result.andThen, Array.back?_push, bne_self_eq_false, Bool.false_eq_true, if_false, hf]
      rw [hk1, hk2]
      rfl
    · rw [leftOf_push es seen hborn j e hel, ChangeMaps.map_eraseIdx, ChangeMaps.map_eraseIdx, hleft]
    · exact hnd.sublist ((List.eraseIdx_sublist _ _).map _)
    · exact fun q hq => hsub q ((List.eraseIdx_sublist _ _).subset hq)

/-- How many entries the iterator at block it has not handed out: a measure. -/
def iterLeft (w : World) (it : Nat) : Nat :=
  match w.heap[it]? with
  | some (.mapIter (some b) _ seen _) => match w.heap[b]? with
    | some (.map es _) => (leftOf es seen).size
    | _ => 0
  | _ => 0

theorem RangeAt.count (h : RangeAt w it b enc ok l left) : iterLeft w it = left.length := by
  obtain ⟨_, _, es, clock, since, seen, c0, hb, hi, _, _, _, hleft, _⟩ := h
  unfold iterLeft
  rw [hi]
  simp only [hb]
  have := congrArg List.length hleft
  simpa using this

/-- What the map holds when an entry has been sought: the key is there. -/
theorem mapEntry_has [DecidableEq α] (K : MKey P kt enc ok) (hT : P.underlying T = some (.map kt et)) {z : Value} (hz : ∀ w, (zeroValue et).run P w = .ok z w) (h : MapIs w b enc ok l) {a : α} (ha : ok a) {r : Value} {w2 : World}
    (hr : (Instr.mapEntry T (.map (some b)) (enc a)).run P w = .ok r w2) : MapIs w2 b enc ok (mput l a ((mget l a).getD z)) := by
  have hlt := h.lt
  have h0 := h
  obtain ⟨es, clock, hb, hl, hn, ho, h5, h6⟩ := h
  rcases K.find w ha es.toList (keys_ok hl ho) with ⟨h1, h2⟩ | ⟨j, e0, h1, h2, h3⟩
  · have hrun : (Instr.mapEntry T (.map (some b)) (enc a)).run P w = .ok (.tuple #[z, goInt clock]) (putObj w b (.map (es.push ⟨enc a, z, clock⟩) (clock + 1))) := by
      simp [Instr.mapEntry, run_underlying hT, MapKept.run_getObj_map hb, K.check w false ha, h1, hz, MapKept.run_setObj_map _ hb, Result.andThen, putObj, ChangeMaps.setBlock]
    rw [hrun] at hr
    cases hr
    rw [mget_none (absent hl h2)]
    refine ⟨_, _, putObj_at _ _ _ hlt, ?_, mput_nodup _ _ _ hn, ?_, born_fresh h6 h5 _ rfl, ?_⟩
    · rw [mput_none _ (absent hl h2), Array.toList_push, List.map_append, hl]
      simp
    · intro p hp
      rcases mput_keys l a _ p hp with rfl | hp
      · exact ha
      · exact ho p hp
    · intro e he
      rw [Array.toList_push, List.mem_append] at he
      rcases he with he | he
      · have := h6 e he; omega
      · simp at he; subst he; simp
  · have hj : es[j]? = some e0 := by simpa using h2
    obtain ⟨p, hp, e1, e2⟩ := entry_of hl h2
    have hpa : p.1 = a := K.inj (by rw [← e1, h3])
    have hp2 : l[j]? = some (a, e0.val) := by rw [hp, ← hpa, e2]
    have hlist0 : (es.modify j (fun e' => { e' with key := enc a })).toList = es.toList := by
      rw [Array.toList_modify, modify_eq_set _ _ _ _ h2]
      apply List.ext_getElem?
      intro i
      rw [List.getElem?_set]
      split
      · rename_i hij
        subst hij
        split
        · rw [h2, ← h3]
        · rename_i hlt2
          rw [List.getElem?_eq_none (by omega)]
      · rfl
    have hes : es.modify j (fun e' => { e' with key := enc a }) = es := Array.toList_inj.1 hlist0
    have hrun : (Instr.mapEntry T (.map (some b)) (enc a)).run P w = .ok (.tuple #[e0.val, goInt e0.born]) (putObj w b (.map es clock)) := by
      simp [Instr.mapEntry, run_underlying hT, MapKept.run_getObj_map hb, K.check w false ha, h1, hj, h3, K.stays w ha, hes, MapKept.run_setObj_map _ hb, Result.andThen, putObj, ChangeMaps.setBlock]
    rw [hrun] at hr
    cases hr
    rw [(at_index hn hp2).1]
    have hsame : mput l a e0.val = l := by
      rw [(at_index hn hp2).2.1]
      apply List.ext_getElem?
      intro i
      rw [List.getElem?_set]
      split
      · rename_i hij
        subst hij
        split
        · rw [hp2]
        · rename_i hlt2
          rw [List.getElem?_eq_none (by omega)]
      · rfl
    show MapIs _ b enc ok (mput l a e0.val)
    rw [hsame]
    exact ⟨es, clock, putObj_at _ _ _ hlt, hl, hn, ho, h5, h6⟩

end

end Go.Proofs.Ytjhfhognacjipaa
