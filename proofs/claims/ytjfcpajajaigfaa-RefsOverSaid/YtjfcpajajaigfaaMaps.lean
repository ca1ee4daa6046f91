import Derived.Test.YtjfcpajajaigfaaBase
import Derived.Maps.Keyed
import Derived.DeepKeys5
import Derived.Maps.OwnOps
/-! Maps that a call makes and keeps to itself: which entries they hold, whatever the elements are. -/
namespace Go.Proofs.Ytjfcpajajaigfaa
open Go.RowKit Go.Maps
open Go.ChangeMaps (modify_eq_set)

/-- Keys of type kt: the values of α that are ok, written by enc. -/
structure MKey (P : Program) (kt : TypeId) {α : Type} (enc : α → Value) (ok : α → Prop) : Prop where
  inj : ∀ {a b : α}, enc a = enc b → a = b
  check : ∀ (w : World) (em : Bool) {a : α}, ok a → (Instr.checkKey em 10000 kt (enc a)).run P w = .ok () w
  find : ∀ (w : World) {a : α}, ok a → ∀ es : List MapEntry, (∀ e ∈ es, ∃ b, ok b ∧ e.key = enc b) →
    ((Instr.findKey kt (enc a) es).run P w = .ok none w ∧ ∀ e ∈ es, e.key ≠ enc a) ∨ ∃ j e, (Instr.findKey kt (enc a) es).run P w = .ok (some (j, e.val)) w ∧ es[j]? = some e ∧ e.key = enc a
  stays : ∀ (w : World) {a : α}, ok a → (Instr.keyThatStays (enc a) (enc a)).run P w = .ok (enc a) w

theorem MKey.of_keyed {P : Program} {kt : TypeId} {α : Type} {enc : α → Value} {ok : α → Prop} (K : Keyed P kt) (hinj : ∀ {a b : α}, enc a = enc b → a = b) (hk : ∀ a, ok a → ∃ l, keyOf P kt (enc a) = some l) : MKey P kt enc ok where
  inj := hinj
  check w em a ha := by obtain ⟨l, hl⟩ := hk a ha; exact K.check w em hl
  find w a ha es hes := by
    obtain ⟨l, hl⟩ := hk a ha
    exact K.find w hl es fun e he => by
      obtain ⟨b, hb, e1⟩ := hes e he
      obtain ⟨l2, h2⟩ := hk b hb
      exact ⟨l2, by rw [e1]; exact h2⟩
  stays w a ha := by obtain ⟨l, hl⟩ := hk a ha; exact K.stays w hl

section lists
variable {α : Type} [DecidableEq α] {β : Type}
def mget : List (α × β) → α → Option β
  | [], _ => none
  | (k, v) :: l, a => if k = a then some v else mget l a
def mput : List (α × β) → α → β → List (α × β)
  | [], a, v => [(a, v)]
  | (k, u) :: l, a, v => if k = a then (a, v) :: l else (k, u) :: mput l a v
def mdel : List (α × β) → α → List (α × β)
  | [], _ => []
  | (k, u) :: l, a => if k = a then l else (k, u) :: mdel l a

theorem mget_none {l : List (α × β)} {a : α} (h : ∀ p ∈ l, p.1 ≠ a) : mget l a = none := by
  induction l with
  | nil => rfl
  | cons p l ih =>
    obtain ⟨k, v⟩ := p
    simp only [mget]
    rw [if_neg (h (k, v) (by simp)), ih fun q hq => h q (by simp [hq])]

theorem mput_none {l : List (α × β)} {a : α} (v : β) (h : ∀ p ∈ l, p.1 ≠ a) : mput l a v = l ++ [(a, v)] := by
  induction l with
  | nil => rfl
  | cons p l ih =>
    obtain ⟨k, u⟩ := p
    simp only [mput]
    rw [if_neg (h (k, u) (by simp)), ih fun q hq => h q (by simp [hq])]
    rfl

theorem mdel_none {l : List (α × β)} {a : α} (h : ∀ p ∈ l, p.1 ≠ a) : mdel l a = l := by
  induction l with
  | nil => rfl
  | cons p l ih =>
    obtain ⟨k, u⟩ := p
    simp only [mdel]
    rw [if_neg (h (k, u) (by simp)), ih fun q hq => h q (by simp [hq])]

theorem at_index {l : List (α × β)} (hn : (l.map Prod.fst).Nodup) {j : Nat} {a : α} {u : β} (h : l[j]? = some (a, u)) :
    mget l a = some u ∧ (∀ v, mput l a v = l.set j (a, v)) ∧ mdel l a = l.eraseIdx j := by
  induction l generalizing j with
  | nil => simp at h
  | cons p l ih =>
    obtain ⟨k, w⟩ := p
    simp only [List.map_cons, List.nodup_cons] at hn
    cases j with
    | zero =>
      simp at h
      obtain ⟨rfl, rfl⟩ := h
      simp [mget, mput, mdel]
    | succ j =>
      simp at h
      have hne : k ≠ a := by
        rintro rfl
        exact hn.1 (List.mem_map.2 ⟨(k, u), List.mem_of_getElem? h, rfl⟩)
      obtain ⟨h1, h2, h3⟩ := ih hn.2 h
      simp only [mget, mput, mdel]
      rw [if_neg hne]
      refine ⟨h1, fun v => ?_, ?_⟩
      · rw [if_neg hne, h2 v]; rfl
      · rw [if_neg hne, h3]; rfl

theorem mget_put (l : List (α × β)) (a : α) (v : β) (b : α) : mget (mput l a v) b = if a = b then some v else mget l b := by
  induction l with
  | nil => simp [mput, mget]
  | cons p l ih =>
    obtain ⟨k, u⟩ := p
    simp only [mput]
    by_cases h : k = a
    · subst h
      rw [if_pos rfl]
      simp only [mget]
      by_cases h2 : k = b
      · rw [if_pos h2, if_pos h2]
      · rw [if_neg h2, if_neg h2, if_neg h2]
    · rw [if_neg h]
      simp only [mget]
      rw [ih]
      by_cases h2 : k = b
      · subst h2
        rw [if_pos rfl, if_pos rfl, if_neg (Ne.symm h)]
      · rw [if_neg h2, if_neg h2]

theorem mput_keys (l : List (α × β)) (a : α) (v : β) : ∀ p ∈ mput l a v, p = (a, v) ∨ p ∈ l := by
  induction l with
  | nil => intro p hp; simp [mput] at hp; exact .inl hp
  | cons q l ih =>
    obtain ⟨k, u⟩ := q
    intro p hp
    simp only [mput] at hp
    split at hp
    · simp at hp
      rcases hp with h | h
      · exact .inl h
      · exact .inr (by simp [h])
    · simp at hp
      rcases hp with h | h
      · exact .inr (by simp [h])
      · rcases ih p h with h | h
        · exact .inl h
        · exact .inr (by simp [h])

theorem mput_nodup (l : List (α × β)) (a : α) (v : β) (h : (l.map Prod.fst).Nodup) : ((mput l a v).map Prod.fst).Nodup := by
  induction l with
  | nil => simp [mput]
  | cons q l ih =>
    obtain ⟨k, u⟩ := q
    simp only [List.map_cons, List.nodup_cons] at h
    simp only [mput]
    split
    · rename_i e
      subst e
      simp only [List.map_cons, List.nodup_cons]
      exact h
    · rename_i hne
      simp only [List.map_cons, List.nodup_cons]
      refine ⟨fun hm => ?_, ih h.2⟩
      obtain ⟨p, hp, e⟩ := List.mem_map.1 hm
      rcases mput_keys l a v p hp with rfl | hp
      · exact hne e.symm
      · exact h.1 (List.mem_map.2 ⟨p, hp, e⟩)

theorem mdel_sub (l : List (α × β)) (a : α) : ∀ p ∈ mdel l a, p ∈ l := by
  induction l with
  | nil => intro p hp; simp [mdel] at hp
  | cons q l ih =>
    obtain ⟨k, u⟩ := q
    intro p hp
    simp only [mdel] at hp
    split at hp
    · simp [hp]
    · simp at hp
      rcases hp with h | h
      · simp [h]
      · simp [ih p h]

theorem mdel_nodup (l : List (α × β)) (a : α) (h : (l.map Prod.fst).Nodup) : ((mdel l a).map Prod.fst).Nodup := by
  induction l with
  | nil => simp [mdel]
  | cons q l ih =>
    obtain ⟨k, u⟩ := q
    simp only [List.map_cons, List.nodup_cons] at h
    simp only [mdel]
    split
    · exact h.2
    · simp only [List.map_cons, List.nodup_cons]
      refine ⟨fun hm => ?_, ih h.2⟩
      obtain ⟨p, hp, e⟩ := List.mem_map.1 hm
      exact h.1 (List.mem_map.2 ⟨p, mdel_sub l a p hp, e⟩)

theorem mget_del (l : List (α × β)) (a : α) (h : (l.map Prod.fst).Nodup) (b : α) : mget (mdel l a) b = if a = b then none else mget l b := by
  induction l with
  | nil => simp [mdel, mget]
  | cons q l ih =>
    obtain ⟨k, u⟩ := q
    simp only [List.map_cons, List.nodup_cons] at h
    simp only [mdel]
    by_cases e : k = a
    · subst e
      rw [if_pos rfl]
      by_cases e2 : k = b
      · subst e2
        rw [if_pos rfl]
        exact mget_none fun p hp e3 => h.1 (List.mem_map.2 ⟨p, hp, e3⟩)
      · rw [if_neg e2]
        simp only [mget]
        rw [if_neg e2]
    · rw [if_neg e]
      simp only [mget]
      rw [ih h.2]
      by_cases e2 : k = b
      · subst e2
        rw [if_pos rfl, if_pos rfl, if_neg (Ne.symm e)]
      · rw [if_neg e2, if_neg e2]

theorem mget_mem {l : List (α × β)} {a : α} {v : β} (h : mget l a = some v) : (a, v) ∈ l := by
  induction l with
  | nil => simp [mget] at h
  | cons q l ih =>
    obtain ⟨k, u⟩ := q
    simp only [mget] at h
    split at h
    · rename_i e; subst e; simp at h; simp [h]
    · simp [ih h]

theorem mget_of_mem {l : List (α × β)} (hn : (l.map Prod.fst).Nodup) {a : α} {v : β} (h : (a, v) ∈ l) : mget l a = some v := by
  obtain ⟨j, hj⟩ := List.getElem?_of_mem h
  exact (at_index hn hj).1
end lists

/-- Block b is a map with just these entries. -/
def MapIs (w : World) (b : Nat) {α : Type} (enc : α → Value) (ok : α → Prop) (l : List (α × Value)) : Prop :=
  ∃ es clock, w.heap[b]? = some (.map es clock) ∧ (es.toList.map fun e => (e.key, e.val)) = l.map (fun p => (enc p.1, p.2)) ∧ (l.map Prod.fst).Nodup ∧ (∀ p ∈ l, ok p.1) ∧
    (es.toList.map (·.born)).Nodup ∧ ∀ e ∈ es.toList, e.born < clock

section
variable {P : Program} {w w' : World} {b : Nat} {α : Type} {enc : α → Value} {ok : α → Prop} {l : List (α × Value)} {kt et T : TypeId}

theorem MapIs.lt (h : MapIs w b enc ok l) : b < w.heap.size := by
  obtain ⟨es, clock, h, _⟩ := h
  exact (Array.getElem?_eq_some_iff.1 h).1

theorem MapIs.kept (h : MapIs w b enc ok l) (hk : w'.heap[b]? = w.heap[b]?) : MapIs w' b enc ok l := by
  obtain ⟨es, clock, h1, h2⟩ := h
  exact ⟨es, clock, hk.trans h1, h2⟩

theorem MapIs.alloc (h : MapIs w b enc ok l) (o : Obj) : MapIs (w.alloc o) b enc ok l := h.kept (Below.heap_alloc w o b h.lt)
theorem MapIs.drewN (h : MapIs w b enc ok l) (n : Nat) : MapIs (w.drewN n) b enc ok l := h
theorem MapIs.drew (h : MapIs w b enc ok l) : MapIs w.drew b enc ok l := h
theorem MapIs.set (h : MapIs w b enc ok l) (p : Addr) (u : Value) : MapIs (w.setCell p u) b enc ok l := by
  obtain ⟨es, clock, h1, h2⟩ := h
  refine ⟨es, clock, ?_, h2⟩
  simp only [World.setCell, Array.getElem?_modify, h1]
  split <;> rfl
theorem MapIs.turned {S : Nat → Prop} (h : MapIs w b enc ok l) (ht : Turned S w w') (hb : ¬ S b) : MapIs w' b enc ok l := h.kept (ht.block b h.lt hb)
theorem MapIs.nodup (h : MapIs w b enc ok l) : (l.map Prod.fst).Nodup := by
  obtain ⟨es, clock, _, _, h, _⟩ := h
  exact h
theorem MapIs.oks (h : MapIs w b enc ok l) : ∀ p ∈ l, ok p.1 := by
  obtain ⟨es, clock, _, _, _, h, _⟩ := h
  exact h

theorem MapIs.made (w : World) (enc : α → Value) (ok : α → Prop) : MapIs (w.alloc (.map #[] 0)) w.heap.size enc ok [] := by
  refine ⟨#[], 0, ?_, rfl, by simp, by simp, by simp, by simp⟩
  show (w.heap.push _)[w.heap.size]? = _
  simp

theorem entry_of {es : Array MapEntry} (h : (es.toList.map fun e => (e.key, e.val)) = l.map (fun p => (enc p.1, p.2))) {j : Nat} {e : MapEntry} (he : es.toList[j]? = some e) :
    ∃ p, l[j]? = some p ∧ e.key = enc p.1 ∧ e.val = p.2 := by
  have h1 : (es.toList.map fun e => (e.key, e.val))[j]? = some (e.key, e.val) := by rw [List.getElem?_map, he]; rfl
  rw [h, List.getElem?_map] at h1
  obtain ⟨p, hp, e1⟩ := Option.map_eq_some_iff.1 h1
  simp only [Prod.mk.injEq] at e1
  exact ⟨p, hp, e1.1.symm, e1.2.symm⟩

theorem keys_ok {es : Array MapEntry} (h : (es.toList.map fun e => (e.key, e.val)) = l.map (fun p => (enc p.1, p.2))) (ho : ∀ p ∈ l, ok p.1) : ∀ e ∈ es.toList, ∃ a, ok a ∧ e.key = enc a := by
  intro e he
  obtain ⟨j, hj⟩ := List.getElem?_of_mem he
  obtain ⟨p, hp, e1, _⟩ := entry_of h hj
  exact ⟨p.1, ho p (List.mem_of_getElem? hp), e1⟩

theorem absent {es : Array MapEntry} (h : (es.toList.map fun e => (e.key, e.val)) = l.map (fun p => (enc p.1, p.2))) {a : α} (hne : ∀ e ∈ es.toList, e.key ≠ enc a) : ∀ p ∈ l, p.1 ≠ a := by
  intro p hp e
  obtain ⟨j, hj⟩ := List.getElem?_of_mem hp
  have h1 : (l.map (fun p => (enc p.1, p.2)))[j]? = some (enc p.1, p.2) := by rw [List.getElem?_map, hj]; rfl
  rw [← h, List.getElem?_map] at h1
  obtain ⟨x, hx, e1⟩ := Option.map_eq_some_iff.1 h1
  simp only [Prod.mk.injEq] at e1
  exact hne x (List.mem_of_getElem? hx) (by rw [e1.1, e])

/-- The world in which block b holds o. -/
def putObj (w : World) (b : Nat) (o : Obj) : World := ChangeMaps.setBlock w b o

theorem putObj_at (w : World) (b : Nat) (o : Obj) (h : b < w.heap.size) : (putObj w b o).heap[b]? = some o := by
  simp [putObj, ChangeMaps.setBlock, h]

theorem putObj_turned (w : World) (b : Nat) (o : Obj) : Turned (fun k => k = b) w (putObj w b o) := by
  refine ⟨rfl, rfl, rfl, by simp [putObj, ChangeMaps.setBlock], fun k _ hn => ?_⟩
  simp only [putObj, ChangeMaps.setBlock]
  rw [Array.getElem?_setIfInBounds, if_neg (fun e => hn e.symm)]

theorem MapIs.size_eq {es : Array MapEntry} (hl : (es.toList.map fun e => (e.key, e.val)) = l.map (fun p => (enc p.1, p.2))) : es.size = l.length := by
  have := congrArg List.length hl
  simpa using this

theorem born_fresh {es : Array MapEntry} {clock : Nat} (hb : ∀ e ∈ es.toList, e.born < clock) (hn : (es.toList.map (·.born)).Nodup) (x : MapEntry) (hx : x.born = clock) : ((es.push x).toList.map (·.born)).Nodup := by
  rw [Array.toList_push, List.map_append, List.nodup_append]
  refine ⟨hn, by simp, ?_⟩
  intro a ha c hc
  simp at hc
  obtain ⟨e, he, rfl⟩ := List.mem_map.1 ha
  have := hb e he
  omega

/-- len(m). -/
theorem run_size (h : MapIs w b enc ok l) : ∃ es clock, w.heap[b]? = some (.map es clock) ∧ es.size = l.length := by
  obtain ⟨es, clock, hb, hl, _⟩ := h
  exact ⟨es, clock, hb, MapIs.size_eq hl⟩

section
variable [DecidableEq α]
/-- m[k], and v, ok := m[k]. -/
theorem run_get (K : MKey P kt enc ok) (hT : P.underlying T = some (.map kt et)) {z : Value} (hz : (zeroValue et).run P w = .ok z w) (h : MapIs w b enc ok l) {a : α} (ha : ok a) (c : Bool) :
    (Instr.lookup T (.map (some b)) (enc a) c).run P w = .ok (if c then .tuple #[(mget l a).getD z, .bool (mget l a).isSome] else (mget l a).getD z) w := by
  obtain ⟨es, clock, hb, hl, hn, ho, _, _⟩ := h
  rcases K.find w ha es.toList (keys_ok hl ho) with ⟨h1, h2⟩ | ⟨j, e0, h1, h2, h3⟩
  · rw [mget_none (absent hl h2)]
    simp [Instr.lookup, run_underlying hT, MapKept.run_getObj_map hb, K.check w _ ha, h1, hz, Result.andThen]
  · obtain ⟨p, hp, e1, e2⟩ := entry_of hl h2
    have : p.1 = a := K.inj (by rw [← e1, h3])
    have hp2 : l[j]? = some (a, e0.val) := by rw [hp, ← this, e2]
    rw [(at_index hn hp2).1]
    simp [Instr.lookup, run_underlying hT, MapKept.run_getObj_map hb, K.check w _ ha, h1, Result.andThen]


/-- m[k] = v. -/
theorem run_put (K : MKey P kt enc ok) (hT : P.underlying T = some (.map kt et)) (h : MapIs w b enc ok l) {a : α} (ha : ok a) (v : Value) :
    ∃ w2, (Instr.mapUpdate T (.map (some b)) (enc a) v).run P w = .ok () w2 ∧ MapIs w2 b enc ok (mput l a v) ∧ Turned (fun k => k = b) w w2 := by
  have hlt := h.lt
  obtain ⟨es, clock, hb, hl, hn, ho, h5, h6⟩ := h
  rcases K.find w ha es.toList (keys_ok hl ho) with ⟨h1, h2⟩ | ⟨j, e0, h1, h2, h3⟩
  · refine ⟨putObj w b (.map (es.push ⟨enc a, v, clock⟩) (clock + 1)), ?_, ⟨_, _, putObj_at _ _ _ hlt, ?_, mput_nodup _ _ _ hn, ?_, born_fresh h6 h5 _ rfl, ?_⟩, putObj_turned _ _ _⟩
    · simp [Instr.mapUpdate, run_underlying hT, MapKept.run_getObj_map hb, K.check w false ha, h1, MapKept.run_setObj_map _ hb, Result.andThen, putObj, ChangeMaps.setBlock]
    · rw [mput_none v (absent hl h2), Array.toList_push, List.map_append, hl]
      simp
    · intro p hp
      rcases mput_keys l a v p hp with rfl | hp
      · exact ha
      · exact ho p hp
    · intro e he
      rw [Array.toList_push, List.mem_append] at he
      rcases he with he | he
      · have := h6 e he; omega
      · simp at he; subst he; simp
  · have hj : es[j]? = some e0 := by simpa using h2
    obtain ⟨p, hp, e1, e2⟩ := entry_of hl h2
    have hpa : p.1 = a := K.inj (by rw [← e1, h3])
    have hp2 : l[j]? = some (a, e0.val) := by rw [hp, ← hpa, e2]
    have hlist : (es.modify j (fun e' => { e' with key := enc a, val := v })).toList = es.toList.set j { e0 with key := enc a, val := v } := by rw [Array.toList_modify, modify_eq_set _ _ _ _ h2]
    refine ⟨putObj w b (.map (es.modify j (fun e' => { e' with key := enc a, val := v })) clock), ?_, ⟨_, _, putObj_at _ _ _ hlt, ?_, mput_nodup _ _ _ hn, ?_, ?_, ?_⟩, putObj_turned _ _ _⟩
    · simp [Instr.mapUpdate, run_underlying hT, MapKept.run_getObj_map hb, K.check w false ha, h1, hj, h3, K.stays w ha, MapKept.run_setObj_map _ hb, Result.andThen, putObj, ChangeMaps.setBlock]
    · rw [hlist, (at_index hn hp2).2.1 v, List.map_set, List.map_set, hl]
    · intro p hp
      rcases mput_keys l a v p hp with rfl | hp
      · exact ha
      · exact ho p hp
    · rw [hlist, List.map_set]
      have e5 : (es.toList.map (·.born)).set j e0.born = es.toList.map (·.born) := by
        apply List.ext_getElem?
        intro i
        rw [List.getElem?_set]
        split
        · rename_i hij
          subst hij
          split
          · rw [List.getElem?_map, h2]; rfl
          · rename_i hlt2
            rw [List.getElem?_eq_none (by omega)]
        · rfl
      show ((es.toList.map (·.born)).set j e0.born).Nodup
      rw [e5]
      exact h5
    · intro e he
      rw [hlist] at he
      rcases List.mem_or_eq_of_mem_set he with he | rfl
      · exact h6 e he
      · exact h6 e0 (List.mem_of_getElem? h2)

/-- delete(m, k). -/
theorem run_del {ty : TypeId} (K : MKey P kt enc ok) (hT : P.underlying T = some (.map kt et)) (h : MapIs w b enc ok l) {a : α} (ha : ok a) :
    ∃ w2, (Builtin.delete_ #[T, kt] ty #[.map (some b), enc a]).run P w = .ok (.tuple #[]) w2 ∧ MapIs w2 b enc ok (mdel l a) ∧ Turned (fun k => k = b) w w2 := by
  have hlt := h.lt
  have h0 := h
  obtain ⟨es, clock, hb, hl, hn, ho, h5, h6⟩ := h
  rcases K.find w ha es.toList (keys_ok hl ho) with ⟨h1, h2⟩ | ⟨j, e0, h1, h2, h3⟩
  · refine ⟨putObj w b (.map es clock), ?_, ⟨es, clock, putObj_at _ _ _ hlt, ?_, mdel_nodup _ _ hn, ?_, h5, h6⟩, putObj_turned _ _ _⟩
    · simp [Builtin.delete_, run_underlying hT, MapKept.run_getObj_map hb, K.check w _ ha, h1, MapKept.run_setObj_map _ hb, Result.andThen, putObj, ChangeMaps.setBlock]
    · rw [mdel_none (absent hl h2)]; exact hl
    · intro p hp; exact ho p (mdel_sub l a p hp)
  · have hjl : j < es.toList.length := (List.getElem?_eq_some_iff.1 h2).1
    have hjs : j < es.size := by simpa using hjl
    obtain ⟨p, hp, e1, e2⟩ := entry_of hl h2
    have hpa : p.1 = a := K.inj (by rw [← e1, h3])
    have hp2 : l[j]? = some (a, e0.val) := by rw [hp, ← hpa, e2]
    have hsub : (es.eraseIdxIfInBounds j).toList = es.toList.eraseIdx j := by
      unfold Array.eraseIdxIfInBounds
      rw [dif_pos hjs]
      simp
    refine ⟨putObj w b (.map (es.eraseIdxIfInBounds j) clock), ?_, ⟨_, _, putObj_at _ _ _ hlt, ?_, mdel_nodup _ _ hn, ?_, ?_, ?_⟩, putObj_turned _ _ _⟩
    · simp [Builtin.delete_, run_underlying hT, MapKept.run_getObj_map hb, K.check w _ ha, h1, MapKept.run_setObj_map _ hb, Result.andThen, putObj, ChangeMaps.setBlock]
    · rw [hsub, (at_index hn hp2).2.2, ChangeMaps.map_eraseIdx, ChangeMaps.map_eraseIdx, hl]
    · intro p hp; exact ho p (mdel_sub l a p hp)
    · rw [hsub]
      exact h5.sublist ((List.eraseIdx_sublist _ _).map _)
    · intro e he
      rw [hsub] at he
      exact h6 e ((List.eraseIdx_sublist _ _).subset he)

/-- m[k] op= v: the entry is sought, or made; behind it what is stored at its stamp is the key's. -/
theorem run_entry (K : MKey P kt enc ok) (hT : P.underlying T = some (.map kt et)) {z : Value} (hz : ∀ w, (zeroValue et).run P w = .ok z w) (h : MapIs w b enc ok l) {a : α} (ha : ok a) :
    ∃ w2 t, (Instr.mapEntry T (.map (some b)) (enc a)).run P w = .ok (.tuple #[(mget l a).getD z, goInt t]) w2 ∧ Turned (fun k => k = b) w w2 ∧ b < w2.heap.size ∧
      ∀ w3, w3.heap[b]? = w2.heap[b]? → ∀ v, ∃ w4, (Instr.entryStore T (.map (some b)) (goInt t) v).run P w3 = .ok () w4 ∧ MapIs w4 b enc ok (mput l a v) ∧ Turned (fun k => k = b) w3 w4 := by
  have hlt := h.lt
  obtain ⟨es, clock, hb, hl, hn, ho, h5, h6⟩ := h
  rcases K.find w ha es.toList (keys_ok hl ho) with ⟨h1, h2⟩ | ⟨j, e0, h1, h2, h3⟩
  · refine ⟨putObj w b (.map (es.push ⟨enc a, z, clock⟩) (clock + 1)), clock, ?_, putObj_turned _ _ _, Nat.lt_of_lt_of_le hlt (putObj_turned _ _ _).size, ?_⟩
    · rw [mget_none (absent hl h2)]
      simp [Instr.mapEntry, run_underlying hT, MapKept.run_getObj_map hb, K.check w false ha, h1, hz, MapKept.run_setObj_map _ hb, Result.andThen, putObj, ChangeMaps.setBlock]
    · intro w3 hw3 v
      rw [putObj_at _ _ _ hlt] at hw3
      have hlt3 : b < w3.heap.size := (Array.getElem?_eq_some_iff.1 hw3).1
      have hfind : (es.push ⟨enc a, z, clock⟩).findIdx? (fun e => (e.born : Int) == (clock : Int)) = some es.size := by
        rw [Array.findIdx?_eq_some_iff_findIdx_eq]
        refine ⟨by simp, ?_⟩
        rw [Array.findIdx_eq (by simp)]
        refine ⟨by simp, fun i hi => ?_⟩
        have hi2 : i < es.size := hi
        rw [Array.getElem_push_lt hi2]
        have := h6 es[i] (by simp)
        simp
        omega
      have hlist : ((es.push ⟨enc a, z, clock⟩).modify es.size (fun e' => { e' with val := v })).toList = es.toList ++ [⟨enc a, v, clock⟩] := by
        apply List.ext_getElem?
        intro i
        rw [Array.getElem?_toList, Array.getElem?_modify]
        by_cases hi : i < es.size
        · rw [if_neg (by omega), Array.getElem?_push_lt hi, List.getElem?_append_left (by simpa using hi)]
          simp [hi]
        · by_cases hi2 : i = es.size
          · subst hi2
            rw [if_pos rfl]
            simp
          · rw [if_neg (by omega), Array.getElem?_eq_none (by simp; omega), List.getElem?_eq_none (by simp; omega)]
      refine ⟨putObj w3 b (.map ((es.push ⟨enc a, z, clock⟩).modify es.size (fun e' => { e' with val := v })) (clock + 1)), ?_, ⟨_, _, putObj_at _ _ _ hlt3, ?_, mput_nodup _ _ _ hn, ?_, ?_, ?_⟩, putObj_turned _ _ _⟩
      · simp [Instr.entryStore, goInt, asInt, asIntOf, MapKept.run_getObj_map hw3, hfind, MapKept.run_setObj_map _ hw3, Result.andThen, putObj, ChangeMaps.setBlock]
      · rw [hlist, mput_none v (absent hl h2), List.map_append, hl]
        simp
      · intro p hp
        rcases mput_keys l a v p hp with rfl | hp
        · exact ha
        · exact ho p hp
      · rw [hlist]
        have := born_fresh h6 h5 ⟨enc a, v, clock⟩ rfl
        rw [Array.toList_push] at this
        exact this
      · intro e he
        rw [hlist, List.mem_append] at he
        rcases he with he | he
        · have := h6 e he; omega
        · simp at he; subst he; simp
  · have hj : es[j]? = some e0 := by simpa using h2
    obtain ⟨p, hp, e1, e2⟩ := entry_of hl h2
    have hpa : p.1 = a := K.inj (by rw [← e1, h3])
    have hp2 : l[j]? = some (a, e0.val) := by rw [hp, ← hpa, e2]
    have hlist0 : (es.modify j (fun e' => { e' with key := enc a })).toList = es.toList := by
      rw [Array.toList_modify, modify_eq_set _ _ _ _ h2]
      apply List.ext_getElem?
      intro i
      rw [List.getElem?_set]
      split
      · rename_i hij
        subst hij
        split
        · rw [h2, ← h3]
        · rename_i hlt2
          rw [List.getElem?_eq_none (by omega)]
      · rfl
    have hes : es.modify j (fun e' => { e' with key := enc a }) = es := Array.toList_inj.1 hlist0
    refine ⟨putObj w b (.map es clock), e0.born, ?_, putObj_turned _ _ _, Nat.lt_of_lt_of_le hlt (putObj_turned _ _ _).size, ?_⟩
    · rw [(at_index hn hp2).1]
      simp [Instr.mapEntry, run_underlying hT, MapKept.run_getObj_map hb, K.check w false ha, h1, hj, h3, K.stays w ha, hes, MapKept.run_setObj_map _ hb, Result.andThen, putObj, ChangeMaps.setBlock]
    · intro w3 hw3 v
      rw [putObj_at _ _ _ hlt] at hw3
      have hlt3 : b < w3.heap.size := (Array.getElem?_eq_some_iff.1 hw3).1
      have hjs : j < es.size := (Array.getElem?_eq_some_iff.1 hj).1
      have hej : es[j] = e0 := (Array.getElem?_eq_some_iff.1 hj).2
      have hfind : es.findIdx? (fun e => (e.born : Int) == (e0.born : Int)) = some j := by
        rw [Array.findIdx?_eq_some_iff_findIdx_eq]
        refine ⟨hjs, ?_⟩
        rw [Array.findIdx_eq hjs]
        refine ⟨by simp [hej], fun i hi => ?_⟩
        have hi2 : i < es.size := by omega
        have hne : es[i].born ≠ e0.born := by
          intro e
          have h7 := List.pairwise_iff_getElem.1 h5 i j (by simpa using hi2) (by simpa using hjs) hi
          apply h7
          simp [hej, e]
        simp
        omega
      have hlist : (es.modify j (fun e' => { e' with val := v })).toList = es.toList.set j { e0 with val := v } := by rw [Array.toList_modify, modify_eq_set _ _ _ _ h2]
      refine ⟨putObj w3 b (.map (es.modify j (fun e' => { e' with val := v })) clock), ?_, ⟨_, _, putObj_at _ _ _ hlt3, ?_, mput_nodup _ _ _ hn, ?_, ?_, ?_⟩, putObj_turned _ _ _⟩
      · simp [Instr.entryStore, goInt, asInt, asIntOf, MapKept.run_getObj_map hw3, hfind, MapKept.run_setObj_map _ hw3, Result.andThen, putObj, ChangeMaps.setBlock]
      · rw [hlist, (at_index hn hp2).2.1 v, List.map_set, List.map_set, hl, h3]
      · intro p hp
        rcases mput_keys l a v p hp with rfl | hp
        · exact ha
        · exact ho p hp
      · rw [hlist, List.map_set]
        have e5 : (es.toList.map (·.born)).set j e0.born = es.toList.map (·.born) := by
          apply List.ext_getElem?
          intro i
          rw [List.getElem?_set]
          split
          · rename_i hij
            subst hij
            split
            · rw [List.getElem?_map, h2]; rfl
            · rename_i hlt2
              rw [List.getElem?_eq_none (by omega)]
          · rfl
        show ((es.toList.map (·.born)).set j e0.born).Nodup
        rw [e5]
        exact h5
      · intro e he
        rw [hlist] at he
        rcases List.mem_or_eq_of_mem_set he with he | rfl
        · exact h6 e he
        · exact h6 e0 (List.mem_of_getElem? h2)
end
end

end Go.Proofs.Ytjfcpajajaigfaa
