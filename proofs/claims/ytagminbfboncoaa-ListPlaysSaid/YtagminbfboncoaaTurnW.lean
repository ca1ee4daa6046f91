import Derived.Test.YtagminbfboncoaaGrowW
/-! A drawn region with one operation (number d) that turns memory: what stands behind it sees what it left. -/
namespace Go.Proofs.Ytagminbfboncoaa
open Go.RowKit
set_option maxHeartbeats 1000000

section
variable {P : Program}

/-- Whether the turning operation is done, behind operation i. -/
def doneBy (i d : Nat) (b : Bool) : Bool := cond (Nat.beq i d) true b

structure TurnAt (ops : Array Oper) (n d : Nat) (slot : Nat → Tmp) (Inv : Bool → World → Prop) (φ : Nat → Value → World → Prop) (a : Act) (listed : Array Bool) (a' : Act) (W : World) : Prop where
  inv : Inv (listed.getD d false) W
  tsize : a'.tmps.size = a.tmps.size
  defers : a'.defers = a.defers
  head : HeadInv .any ops n listed
  other : ∀ t, (∀ i, i < n → slot i ≠ t) → a'.tmps[t]? = a.tmps[t]?
  has : ∀ i, i < n → listed.getD i false = true → φ i (a'.eval (.tmp (slot i))) W ∧ (d ≤ i → listed.getD d false = true)

theorem wp_region_turn_tail {id : Nat} {ops : Array Oper} {Q : Exit → Act → World → Prop} {a : Act} {w : World} (hm : P.follows .mixedOrders = true) (n d : Nat) (hn : n < ops.size) (hdn : d < n)
    (hs : Region.sinkB .any ops n = true) (hc : Region.chainB .any ops n = true)
    (slot : Nat → Tmp) (Inv : Bool → World → Prop) (φ : Nat → Value → World → Prop) (hφ : ∀ i, LastsW (φ i)) (hφd : ∀ i, i < d → ∀ v W W', φ i v W → φ i v W')
    (hslot : ∀ i, i < n → slot i < a.tmps.size)
    (hinj : ∀ i j, i < n → j < n → slot i = slot j → i = j)
    (hback : ∀ (i : Nat) (o : Oper), ops[i]? = some o → ∀ e ∈ o.after, e.on < i)
    (hafter : ∀ (i : Nat) (o : Oper), d < i → i < n → ops[i]? = some o → ∃ e ∈ o.after, Region.binds .any e = true ∧ d ≤ e.on)
    (h0 : Inv false w.drew)
    (hstep : ∀ (i : Nat) (o : Oper), i < n → ops[i]? = some o → ∀ b, (d < i → b = true) → (i = d → b = false) → ∀ (a' : Act) (W : World), Inv b W → a'.tmps.size = a.tmps.size → (∀ t, (∀ i, i < n → slot i ≠ t) → a'.tmps[t]? = a.tmps[t]?) →
      (∀ e ∈ o.after, Region.binds .any e = true → φ e.on (a'.eval (.tmp (slot e.on))) W) →
      ∀ K : Act → World → Prop, (∀ v W', (i = d ∨ Below W.heap.size W W') → Inv (doneBy i d b) W' → φ i v W' → K (a'.put (some (slot i)) v) W') → wpOp P ops Q i K a' W)
    (htail : ∀ (a' : Act) (W : World), Inv true W → a'.tmps.size = a.tmps.size → a'.defers = a.defers → (∀ t, (∀ i, i < n → slot i ≠ t) → a'.tmps[t]? = a.tmps[t]?) →
      (∀ i, i < n → φ i (a'.eval (.tmp (slot i))) W) → wpList P ops Q (ops.toList.drop n) a' W) :
    (Code.region id ops true).wp P Q a w := by
  refine wp_region_any hm ?_
  have key : ∀ (u : Nat) (listed : Array Bool) (a' : Act) (W : World), TurnAt ops n d slot Inv φ a listed a' W → (List.range n).countP (fun i => !listed.getD i true) = u →
      wpAny P .any ops Q (u + (ops.size - n)) listed a' W := by
    intro u
    induction u with
    | zero =>
      intro listed a' W g hu
      have hall : ∀ i, i < n → listed.getD i true = true := by
        intro i hi
        rw [List.countP_eq_zero] at hu
        have := hu i (List.mem_range.2 hi)
        simpa using this
      rw [Nat.zero_add]
      have hallf : ∀ i, i < n → listed.getD i false = true := by
        intro i hi
        have := hall i hi
        have hil : i < listed.size := by rw [g.head.size]; omega
        simp [hil] at this ⊢
        exact this
      have hinv := g.inv
      rw [hallf d hdn] at hinv
      refine wpAny_tail hc hback (ops.size - n) n listed a' W (by omega) (Nat.le_refl _) g.head.size (fun i hi => ?_) (htail a' W hinv g.tsize g.defers g.other (fun i hi => (g.has i hi (hallf i hi)).1))
      by_cases h : i < n
      · rw [hall i h, decide_eq_true h]
      · rw [g.head.tail i (by omega) hi, decide_eq_false h]
    | succ u ih =>
      intro listed a' W g hu
      have hex : ∃ i, i < n ∧ listed.getD i true = false := by
        have : 0 < (List.range n).countP (fun i => !listed.getD i true) := by omega
        obtain ⟨i, hi, hp⟩ := List.countP_pos_iff.1 this
        exact ⟨i, List.mem_range.1 hi, by simpa using hp⟩
      rw [show u + 1 + (ops.size - n) = (u + (ops.size - n)) + 1 by omega]
      obtain ⟨i0, hi0, hun0⟩ := hex
      have headed : ∀ t, t ∈ Region.ready .any ops listed → t < n := fun t ht => by
        rcases Nat.lt_or_ge t n with h | h
        · exact h
        · exact absurd ht (tail_waits hs hc hn g.head _ i0 rfl hi0 hun0 t h)
      refine ⟨fun h0 => ?_, fun i hi => ?_⟩
      · -- the least one that is not listed is ready
        exfalso
        have least : ∀ m i, i < m → i < n → listed.getD i true = true := by
          intro m
          induction m with
          | zero => intro i h; omega
          | succ m ihm =>
            intro i hi his
            rcases Nat.lt_or_ge i m with h | h
            · exact ihm i h his
            · obtain rfl : i = m := by omega
              cases hl : listed.getD i true with
              | true => rfl
              | false =>
                have hr : i ∈ Region.ready .any ops listed := by
                  rw [mem_ready]
                  refine ⟨hl, ops[i]'(by omega), by simp, fun e he _ => ?_⟩
                  have h1 := hback i (ops[i]'(by omega)) (by simp) e he
                  have h2 := ihm e.on (by omega) (by omega)
                  have : e.on < listed.size := by rw [g.head.size]; omega
                  simp [this] at h2 ⊢
                  exact h2
                rw [h0] at hr
                cases hr
        rw [least (i0 + 1) i0 (by omega) hi0] at hun0
        cases hun0
      · have hin := headed i hi
        obtain ⟨hun, o, ho, hedges⟩ := mem_ready.1 hi
        have hil : i < listed.size := by rw [g.head.size]; omega
        have hund : i = d → listed.getD d false = false := fun e => by
          subst e
          simp [hil] at hun ⊢
          exact hun
        have hdone : d < i → listed.getD d false = true := fun h => by
          obtain ⟨e, he, hb, hd⟩ := hafter i o h hin ho
          exact (g.has e.on (by have := hback i o ho e he; omega) (hedges e he hb)).2 hd
        have hst := hstep i o hin ho _ hdone hund
        have hset : (listed.setIfInBounds i true).getD d false = doneBy i d (listed.getD d false) := by
          unfold doneBy
          by_cases hid : i = d
          · subst hid
            rw [show Nat.beq i i = true from Nat.beq_refl i]
            simp [hil]
          · rw [show Nat.beq i d = false from by cases h : Nat.beq i d with | false => rfl | true => exact absurd (Nat.eq_of_beq_eq_true h) hid]
            rw [getD_set_ne false hid]
            rfl
        refine (hst a' W g.inv g.tsize g.other (fun e he hb => (g.has e.on (by have := hback i o ho e he; omega) (hedges e he hb)).1) _ fun v W' hB hI hv => ih _ _ _ ?_ ?_)
        · refine ⟨by rw [hset]; exact hI, by simp [Act.put]; exact g.tsize, by simp [Act.put]; exact g.defers, g.head.set hi hin, fun t ht => ?_, fun j hj hl => ?_⟩
          · have := ht i hin
            rw [← g.other t ht]
            simp [Act.put, Array.getElem?_setIfInBounds_ne this]
          · by_cases hij : i = j
            · subst hij
              rw [evalW_put_same (by rw [g.tsize]; exact hslot i hin)]
              refine ⟨hv, fun hdi => ?_⟩
              rw [hset]
              unfold doneBy
              rcases Nat.lt_or_ge d i with h | h
              · rw [hdone h]
                cases Nat.beq i d <;> rfl
              · obtain rfl : i = d := by omega
                rw [Nat.beq_refl]
                rfl
            · rw [evalW_put_other (fun h => hij (hinj i j hin hj h))]
              rw [getD_set_ne false hij] at hl
              obtain ⟨g1, g2⟩ := g.has j hj hl
              refine ⟨?_, fun hdj => ?_⟩
              · rcases hB with hB | hB
                · refine hφd j ?_ _ _ _ g1
                  rcases Nat.lt_or_ge j d with h | h
                  · exact h
                  · have := g2 h
                    rw [hund hB] at this
                    cases this
                · exact hφ j _ _ _ hB g1
              · rw [hset, g2 hdj]
                unfold doneBy
                cases Nat.beq i d <;> rfl
        · have := countP_lessW (p := fun j => !(listed.setIfInBounds i true).getD j true) (q := fun j => !listed.getD j true) (i := i) (fun j hj => by
            by_cases hij : i = j
            · subst hij; simp [hil] at hj
            · rw [getD_set_ne true hij] at hj; exact hj) (List.nodup_range (n := n)) (List.mem_range.2 hin) (by rw [hun]; rfl) (by simp [hil]) (fun j hj => by rw [getD_set_ne true (Ne.symm hj)])
          omega
  have hlist : ∀ i, (Array.replicate ops.size false).getD i false = false := fun i => getD_replicate_false _ _
  have h1 := key n (Array.replicate ops.size false) a { w with drawn := w.drawn + 1 } ⟨by rw [hlist]; exact h0, rfl, rfl, ⟨by simp, (fun j oj hj hl => by rw [hlist] at hl; cases hl), (fun t ht hts => by simp [hts])⟩, fun _ _ => rfl, fun i _ hl => by rw [hlist] at hl; cases hl⟩ (by
    have : (List.range n).countP (fun i => !(Array.replicate ops.size false).getD i true) = (List.range n).countP (fun _ => true) := List.countP_congr fun i hi => by
      have : i < ops.size := by have := List.mem_range.1 hi; omega
      simp [this]
    rw [this]
    simp)
  rw [show n + (ops.size - n) = ops.size by omega] at h1
  exact h1

/-- One operation of such a region; each guard is met. -/
def TurnStep (P : Program) (ops : Array Oper) (Q : Exit → Act → World → Prop) (a : Act) (S : List Tmp) (d : Nat) (Inv : Bool → World → Prop) (φ : Nat → Value → World → Prop) (i : Nat) (o : Oper) : Prop :=
  (o.guard = none ∨ ∃ g want og, o.guard = some (g, want) ∧ (∃ e ∈ o.after, e.on = g ∧ Region.binds .any e = true) ∧ ops[g]? = some og ∧ og.dst = some (S.getD g 0) ∧ g < S.length ∧ ∀ v W, φ g v W → v = .bool want) ∧
    ∀ b, (d < i → b = true) → (i = d → b = false) → ∀ (a' : Act) (W : World), Inv b W → (∀ t, t ∉ S → a'.eval (.tmp t) = a.eval (.tmp t)) →
    (∀ e ∈ o.after, Region.binds .any e = true → φ e.on (a'.eval (.tmp (S.getD e.on 0))) W) →
    ∀ K : Act → World → Prop, (∀ v W', (i = d ∨ Below W.heap.size W W') → Inv (doneBy i d b) W' → φ i v W' → K (a'.put (some (S.getD i 0)) v) W') → o.wp P a' W K Q

def TurnSteps (P : Program) (ops : Array Oper) (Q : Exit → Act → World → Prop) (a : Act) (S : List Tmp) (d : Nat) (Inv : Bool → World → Prop) (φ : Nat → Value → World → Prop) : Nat → List Oper → Prop
  | _, [] => True
  | i, o :: l => TurnStep P ops Q a S d Inv φ i o ∧ TurnSteps P ops Q a S d Inv φ (i + 1) l

theorem TurnSteps.at {ops : Array Oper} {Q : Exit → Act → World → Prop} {a : Act} {S : List Tmp} {d : Nat} {Inv : Bool → World → Prop} {φ : Nat → Value → World → Prop} : ∀ {l : List Oper} {k : Nat},
    TurnSteps P ops Q a S d Inv φ k l → ∀ j o, l[j]? = some o → TurnStep P ops Q a S d Inv φ (k + j) o
  | [], _, _, j, o, h => by simp at h
  | x :: l, k, hs, 0, o, h => by simp at h; subst h; exact hs.1
  | x :: l, k, hs, j + 1, o, h => by
    have := TurnSteps.at hs.2 j o (by simpa using h)
    rw [show k + (j + 1) = k + 1 + j by omega]
    exact this

def afterB (d : Nat) : Nat → List Oper → Bool
  | _, [] => true
  | i, o :: l => (decide (i ≤ d) || o.after.any (fun e => Region.binds .any e && decide (d ≤ e.on))) && afterB d (i + 1) l

theorem afterB_spec {d : Nat} : ∀ {l : List Oper} {k : Nat}, afterB d k l = true → ∀ j o, d < k + j → l[j]? = some o → ∃ e ∈ o.after, Region.binds .any e = true ∧ d ≤ e.on
  | [], _, _, j, o, _, h => by simp at h
  | x :: l, k, hs, 0, o, hd, h => by
    simp at h; subst h
    simp only [afterB, Bool.and_eq_true, Bool.or_eq_true, decide_eq_true_eq] at hs
    rcases hs.1 with h1 | h1
    · omega
    · rw [← Array.any_toList] at h1
      obtain ⟨e, he, h2⟩ := List.any_eq_true.1 h1
      simp only [Bool.and_eq_true, decide_eq_true_eq] at h2
      exact ⟨e, by simpa using he, h2⟩
  | x :: l, k, hs, j + 1, o, hd, h => by
    simp only [afterB, Bool.and_eq_true] at hs
    exact afterB_spec hs.2 j o (by omega) (by simpa using h)

/-- The law, as a walk uses it. -/
theorem wp_region_turn {id : Nat} {l : List Oper} {Q : Exit → Act → World → Prop} {a : Act} {w : World} (S : List Tmp) (d : Nat) (Inv : Bool → World → Prop) (φ : Nat → Value → World → Prop) (hm : P.follows .mixedOrders = true)
    (hn : S.length < l.length) (hdn : d < S.length) (hs : Region.sinkB .any ⟨l⟩ S.length = true) (hc : Region.chainB .any ⟨l⟩ S.length = true) (hb : backWB 0 l = true) (ha : afterB d 0 (l.take S.length) = true)
    (hS : ∀ s, s ∈ S → s < a.tmps.size) (hd : S.Nodup) (hφ : ∀ i, LastsW (φ i)) (hφd : ∀ i, i < d → ∀ v W W', φ i v W → φ i v W') (h0 : Inv false w.drew)
    (hstep : TurnSteps P ⟨l⟩ Q a S d Inv φ 0 (l.take S.length))
    (htail : ∀ (vs : List Value) (W : World), Inv true W → vs.length = S.length → (∀ i v, vs[i]? = some v → φ i v W) → wpList P ⟨l⟩ Q (l.drop S.length) (putAll a S vs) W) :
    (Code.region id ⟨l⟩ true).wp P Q a w := by
  have hget : ∀ i, i < S.length → S.getD i 0 ∈ S := fun i hi => by simp [List.getD_eq_getElem?_getD, hi]
  have hmem : ∀ t, t ∉ S → ∀ i, i < S.length → S.getD i 0 ≠ t := fun t ht i hi e => ht (e ▸ hget i hi)
  refine wp_region_turn_tail hm S.length d hn hdn hs hc (fun i => S.getD i 0) Inv φ hφ hφd (fun i hi => hS _ (hget i hi)) ?_ (fun i o ho => by have := backWB_spec hb i o (by simpa using ho); simpa using this)
    (fun i o hdi hi ho => afterB_spec ha i o (by omega) (by rw [List.getElem?_take, if_pos hi]; simpa using ho)) h0 ?_ ?_
  · intro i j hi hj e
    simp only [List.getD_eq_getElem?_getD, List.getElem?_eq_getElem hi, List.getElem?_eq_getElem hj, Option.getD_some] at e
    rcases Nat.lt_trichotomy i j with h | h | h
    · exact absurd e (List.pairwise_iff_getElem.1 hd i j hi hj h)
    · exact h
    · exact absurd e.symm (List.pairwise_iff_getElem.1 hd j i hj hi h)
  · intro i o hi ho b hb1 hb2 a' W hB hsz hold he K hK
    have hat := hstep.at i o (by rw [List.getElem?_take, if_pos hi]; simpa using ho)
    rw [Nat.zero_add] at hat
    obtain ⟨hw, hst⟩ := hat
    unfold wpOp
    rw [ho]
    simp only []
    have hwant : Region.wanted o (yielded ⟨l⟩ a'.tmps) = true := by
      rcases hw with hw | ⟨g, want, og, hg, ⟨e, he1, he2, he3⟩, h1, h2, hgl, h3⟩
      · simp [Region.wanted, hw]
      · unfold Region.wanted
        rw [hg]
        simp only []
        rw [yielded_at h1 h2 (by rw [hsz]; exact hS _ (hget g hgl)) want]
        have := he e he1 he3
        rw [he2] at this
        exact h3 _ _ this
    rw [if_pos hwant]
    refine .inl (hst b hb1 hb2 a' W hB (fun t ht => ?_) he K hK)
    have := hold t (hmem t ht)
    simp [Act.eval, this]
  · intro a' W hB hsz hdf hold hh
    have e := act_all (S := S) hsz hdf (fun t ht => hold t (hmem t ht)) hS hd
    rw [e]
    refine htail _ W hB (by simp) (fun i v hv => ?_)
    rw [List.getElem?_map] at hv
    obtain ⟨s, hs', rfl⟩ := Option.map_eq_some_iff.1 hv
    have hil := (List.getElem?_eq_some_iff.1 hs').1
    have := hh i hil
    simp only [List.getD_eq_getElem?_getD, hs', Option.getD_some] at this
    exact this

end
end Go.Proofs.Ytagminbfboncoaa
