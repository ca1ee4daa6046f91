/- Types: lemmas on what the functions that the laws reach answer. No conditions of their own beyond those that each theorem states. -/
import Derived.Test.YtkflofjcjolehaaBig0
import Derived.StillTail
import Derived.Orders
/-! A drawn region whose first operations each lay something new and touch nothing old, in whatever order, and whose last ones (the stores) come behind them in their order. -/
namespace Go.Proofs.Ytkflofjcjolehaa
open Go.RowKit

/-- What stays as long as no block that is there is touched. -/
def LastsW (φ : Value → World → Prop) : Prop := ∀ v W W', Below W.heap.size W W' → φ v W → φ v W'

section
variable {P : Program}

/-- Where such a region stands: what is listed of its first operations holds; all other slots are as they were. -/
structure GrowWAt (ops : Array Oper) (n : Nat) (slot : Nat → Tmp) (φ : Nat → Value → World → Prop) (blk : Nat → Value → Option Nat) (w : World) (a : Act) (listed : Array Bool) (a' : Act) (W : World) : Prop where
  below : Below w.heap.size w W
  tsize : a'.tmps.size = a.tmps.size
  defers : a'.defers = a.defers
  head : HeadInv .any ops n listed
  other : ∀ t, (∀ i, i < n → slot i ≠ t) → a'.tmps[t]? = a.tmps[t]?
  has : ∀ i, i < n → listed.getD i false = true → φ i (a'.eval (.tmp (slot i))) W
  apart : ∀ i j, i < n → j < n → i ≠ j → listed.getD i false = true → listed.getD j false = true → ∀ b c, blk i (a'.eval (.tmp (slot i))) = some b → blk j (a'.eval (.tmp (slot j))) = some c → b ≠ c

theorem evalW_put_same {a : Act} {t : Tmp} {v : Value} (h : t < a.tmps.size) : (a.put (some t) v).eval (.tmp t) = v := by
  simp [Act.put, Act.eval, h]

theorem evalW_put_other {a : Act} {t u : Tmp} {v : Value} (h : t ≠ u) : (a.put (some t) v).eval (.tmp u) = a.eval (.tmp u) := by
  simp [Act.put, Act.eval, Array.getElem?_setIfInBounds_ne h]

theorem countP_lessW {p q : Nat → Bool} {i : Nat} (h : ∀ j, p j = true → q j = true) : ∀ {l : List Nat}, l.Nodup → i ∈ l → q i = true → p i = false → (∀ j, j ≠ i → p j = q j) → l.countP p + 1 = l.countP q
  | x :: l, hd, hi, hq, hp, ho => by
    rw [List.countP_cons, List.countP_cons]
    rw [List.nodup_cons] at hd
    rcases List.mem_cons.1 hi with rfl | hi
    · have : l.countP p = l.countP q := List.countP_congr fun j hj => by rw [ho j (fun e => hd.1 (e ▸ hj))]
      rw [hq, hp, this]; simp
    · have hne : x ≠ i := fun e => hd.1 (e ▸ hi)
      have := countP_lessW h hd.2 hi hq hp ho
      rw [ho x hne]
      omega

theorem wpAny_tail {ops : Array Oper} {Q : Exit → Act → World → Prop} {n : Nat} (hc : Region.chainB .any ops n = true) (hback : ∀ (i : Nat) (o : Oper), ops[i]? = some o → ∀ e ∈ o.after, e.on < i) :
    ∀ (d k : Nat) (listed : Array Bool) (a : Act) (W : World), k + d = ops.size → n ≤ k → listed.size = ops.size → (∀ i, i < ops.size → listed.getD i true = decide (i < k)) → wpList P ops Q (ops.toList.drop k) a W →
      wpAny P .any ops Q d listed a W := by
  have none_ready : ∀ (k : Nat) (listed : Array Bool), n ≤ k → listed.size = ops.size → (∀ i, i < ops.size → listed.getD i true = decide (i < k)) → ∀ t, t ∈ Region.ready .any ops listed → t = k := by
    intro k listed hk hls hl t ht
    obtain ⟨hun, ot, hot, hall⟩ := mem_ready.1 ht
    have hts : t < ops.size := (Array.getElem?_eq_some_iff.1 hot).1
    rw [hl t hts] at hun
    have hkt : k ≤ t := by simpa using hun
    rcases Nat.lt_or_ge k t with h | h
    · exfalso
      have h1 := List.all_eq_true.1 hc t (List.mem_range.2 hts)
      simp only [Bool.or_eq_true, decide_eq_true_eq] at h1
      rcases h1 with h1 | h1
      · omega
      · obtain ⟨o', ho', e, he, hb, hon⟩ := Region.waitsFor_spec h1
        have : o' = ot := Option.some.inj (ho'.symm.trans hot)
        subst this
        have h2 := hall e he hb
        rw [hon] at h2
        have h3 := hl (t - 1) (by omega)
        rw [decide_eq_false (show ¬ t - 1 < k by omega)] at h3
        rw [getD_both h3] at h2
        cases h2
    · omega
  intro d
  induction d with
  | zero =>
    intro k listed a W hd hk hls hl h
    have hr : Region.ready .any ops listed = [] := by
      rw [List.eq_nil_iff_forall_not_mem]
      intro t ht
      have h1 := none_ready k listed hk hls hl t ht
      obtain ⟨_, o, ho, _⟩ := mem_ready.1 ht
      have := (Array.getElem?_eq_some_iff.1 ho).1
      omega
    refine ⟨hr, ?_⟩
    rw [List.drop_of_length_le (by simp; omega)] at h
    exact h
  | succ d ih =>
    intro k listed a W hd hk hls hl h
    have hks : k < ops.size := by omega
    have hkr : k ∈ Region.ready .any ops listed := by
      rw [mem_ready]
      refine ⟨by rw [hl k hks]; simp, ops[k], by simp [hks], fun e he hb => ?_⟩
      have h1 := hback k ops[k] (by simp [hks]) e he
      have h2 := hl e.on (by omega)
      rw [decide_eq_true h1] at h2
      have : e.on < listed.size := by omega
      simp [this] at h2 ⊢
      exact h2
    refine ⟨(fun h0 => by rw [h0] at hkr; cases hkr), fun i hi => ?_⟩
    obtain rfl := none_ready k listed hk hls hl i hi
    have hcons : ops.toList.drop i = ops[i] :: ops.toList.drop (i + 1) := by
      rw [List.drop_eq_getElem_cons (by simpa using hks)]
      simp
    rw [hcons] at h
    have hnext : ∀ a' W', wpList P ops Q (ops.toList.drop (i + 1)) a' W' → wpAny P .any ops Q d (listed.setIfInBounds i true) a' W' := fun a' W' h' =>
      ih (i + 1) _ a' W' (by omega) (by omega) (by simp; exact hls) (fun j hj => by
        by_cases hij : i = j
        · subst hij
          rw [decide_eq_true (by omega)]
          simp [hls, hj]
        · rw [getD_set_ne true hij, hl j hj]
          by_cases h1 : j < i
          · rw [decide_eq_true h1, decide_eq_true (by omega)]
          · rw [decide_eq_false h1, decide_eq_false (by omega)]) h'
    unfold wpOp
    rw [show ops[i]? = some ops[i] by simp [hks]]
    simp only [wpList] at h ⊢
    split at h
    · rename_i hw
      rw [if_pos hw]
      rcases h with h | h
      · exact .inl (Oper.wp_mono hnext h)
      · exact .inr h
    · rename_i hw
      rw [if_neg hw]
      exact hnext _ _ h

theorem wp_region_grows_tail {id : Nat} {ops : Array Oper} {Q : Exit → Act → World → Prop} {a : Act} {w : World} (hm : P.follows .mixedOrders = true) (n : Nat) (hn : n < ops.size)
    (hs : Region.sinkB .any ops n = true) (hc : Region.chainB .any ops n = true)
    (slot : Nat → Tmp) (φ : Nat → Value → World → Prop) (blk : Nat → Value → Option Nat) (hφ : ∀ i, LastsW (φ i)) (hblk : ∀ i v W b, φ i v W → blk i v = some b → b < W.heap.size)
    (hslot : ∀ i, i < n → slot i < a.tmps.size)
    (hinj : ∀ i j, i < n → j < n → slot i = slot j → i = j)
    (hback : ∀ (i : Nat) (o : Oper), ops[i]? = some o → ∀ e ∈ o.after, e.on < i)
    (hstep : ∀ (i : Nat) (o : Oper), i < n → ops[i]? = some o → ∀ (a' : Act) (W : World), Below w.heap.size w W → a'.tmps.size = a.tmps.size → (∀ t, (∀ i, i < n → slot i ≠ t) → a'.tmps[t]? = a.tmps[t]?) →
      (∀ e ∈ o.after, Region.binds .any e = true → φ e.on (a'.eval (.tmp (slot e.on))) W) →
      ∀ K : Act → World → Prop, (∀ v W', Below W.heap.size W W' → φ i v W' → (∀ b, blk i v = some b → W.heap.size ≤ b) → K (a'.put (some (slot i)) v) W') → wpOp P ops Q i K a' W)
    (htail : ∀ (a' : Act) (W : World), Below w.heap.size w W → a'.tmps.size = a.tmps.size → a'.defers = a.defers → (∀ t, (∀ i, i < n → slot i ≠ t) → a'.tmps[t]? = a.tmps[t]?) →
      (∀ i, i < n → φ i (a'.eval (.tmp (slot i))) W) → (∀ i j, i < n → j < n → i ≠ j → ∀ b c, blk i (a'.eval (.tmp (slot i))) = some b → blk j (a'.eval (.tmp (slot j))) = some c → b ≠ c) → wpList P ops Q (ops.toList.drop n) a' W) :
    (Code.region id ops true).wp P Q a w := by
  refine wp_region_any hm ?_
  have key : ∀ (u : Nat) (listed : Array Bool) (a' : Act) (W : World), GrowWAt ops n slot φ blk w a listed a' W → (List.range n).countP (fun i => !listed.getD i true) = u →
      wpAny P .any ops Q (u + (ops.size - n)) listed a' W := by
    intro u
    induction u with
    | zero =>
      intro listed a' W g hu
      have hall : ∀ i, i < n → listed.getD i true = true := by
        intro i hi
        rw [List.countP_eq_zero] at hu
        have := hu i (List.mem_range.2 hi)
        simpa using this
      rw [Nat.zero_add]
      have hallf : ∀ i, i < n → listed.getD i false = true := by
        intro i hi
        have := hall i hi
        have hil : i < listed.size := by rw [g.head.size]; omega
        simp [hil] at this ⊢
        exact this
      refine wpAny_tail hc hback (ops.size - n) n listed a' W (by omega) (Nat.le_refl _) g.head.size (fun i hi => ?_) (htail a' W g.below g.tsize g.defers g.other (fun i hi => g.has i hi (hallf i hi)) (fun i j hi hj hij => g.apart i j hi hj hij (hallf i hi) (hallf j hj)))
      by_cases h : i < n
      · rw [hall i h, decide_eq_true h]
      · rw [g.head.tail i (by omega) hi, decide_eq_false h]
    | succ u ih =>
      intro listed a' W g hu
      have hex : ∃ i, i < n ∧ listed.getD i true = false := by
        have : 0 < (List.range n).countP (fun i => !listed.getD i true) := by omega
        obtain ⟨i, hi, hp⟩ := List.countP_pos_iff.1 this
        exact ⟨i, List.mem_range.1 hi, by simpa using hp⟩
      rw [show u + 1 + (ops.size - n) = (u + (ops.size - n)) + 1 by omega]
      obtain ⟨i0, hi0, hun0⟩ := hex
      have headed : ∀ t, t ∈ Region.ready .any ops listed → t < n := fun t ht => by
        rcases Nat.lt_or_ge t n with h | h
        · exact h
        · exact absurd ht (tail_waits hs hc hn g.head _ i0 rfl hi0 hun0 t h)
      refine ⟨fun h0 => ?_, fun i hi => ?_⟩
      · -- the least one that is not listed is ready
        exfalso
        have least : ∀ m i, i < m → i < n → listed.getD i true = true := by
          intro m
          induction m with
          | zero => intro i h; omega
          | succ m ihm =>
            intro i hi his
            rcases Nat.lt_or_ge i m with h | h
            · exact ihm i h his
            · obtain rfl : i = m := by omega
              cases hl : listed.getD i true with
              | true => rfl
              | false =>
                have hr : i ∈ Region.ready .any ops listed := by
                  rw [mem_ready]
                  refine ⟨hl, ops[i]'(by omega), by simp, fun e he _ => ?_⟩
                  have h1 := hback i (ops[i]'(by omega)) (by simp) e he
                  have h2 := ihm e.on (by omega) (by omega)
                  have : e.on < listed.size := by rw [g.head.size]; omega
                  simp [this] at h2 ⊢
                  exact h2
                rw [h0] at hr
                cases hr
        rw [least (i0 + 1) i0 (by omega) hi0] at hun0
        cases hun0
      · have hin := headed i hi
        obtain ⟨hun, o, ho, hedges⟩ := mem_ready.1 hi
        have hst := hstep i o hin ho
        have hil : i < listed.size := by rw [g.head.size]; omega
        refine (hst a' W g.below g.tsize g.other (fun e he hb => g.has e.on (by have := hback i o ho e he; omega) (hedges e he hb)) _ fun v W' hB hv hfr => ih _ _ _ ?_ ?_)
        · refine ⟨g.below.trans (hB.mono g.below.size), by simp [Act.put]; exact g.tsize, by simp [Act.put]; exact g.defers, g.head.set hi hin, fun t ht => ?_, fun j hj hl => ?_, fun j k hj hk hjk hlj hlk b c eb ec => ?_⟩
          · have := ht i hin
            rw [← g.other t ht]
            simp [Act.put, Array.getElem?_setIfInBounds_ne this]
          · by_cases hij : i = j
            · subst hij
              rw [evalW_put_same (by rw [g.tsize]; exact hslot i hin)]
              exact hv
            · rw [evalW_put_other (fun h => hij (hinj i j hin hj h))]
              rw [getD_set_ne false hij] at hl
              exact hφ j _ _ _ hB (g.has j hj hl)
          · by_cases hij : i = j
            · subst hij
              rw [evalW_put_same (by rw [g.tsize]; exact hslot i hin)] at eb
              rw [evalW_put_other (fun h => hjk (hinj i k hin hk h))] at ec
              rw [getD_set_ne false hjk] at hlk
              have h1 := hfr b eb
              have h2 := hblk k _ _ _ (g.has k hk hlk) ec
              omega
            · by_cases hik : i = k
              · subst hik
                rw [evalW_put_same (by rw [g.tsize]; exact hslot i hin)] at ec
                rw [evalW_put_other (fun h => hij (hinj i j hin hj h))] at eb
                rw [getD_set_ne false hij] at hlj
                have h1 := hfr c ec
                have h2 := hblk j _ _ _ (g.has j hj hlj) eb
                omega
              · rw [evalW_put_other (fun h => hij (hinj i j hin hj h))] at eb
                rw [evalW_put_other (fun h => hik (hinj i k hin hk h))] at ec
                rw [getD_set_ne false hij] at hlj
                rw [getD_set_ne false hik] at hlk
                exact g.apart j k hj hk hjk hlj hlk b c eb ec
        · have := countP_lessW (p := fun j => !(listed.setIfInBounds i true).getD j true) (q := fun j => !listed.getD j true) (i := i) (fun j hj => by
            by_cases hij : i = j
            · subst hij; simp [hil] at hj
            · rw [getD_set_ne true hij] at hj; exact hj) (List.nodup_range (n := n)) (List.mem_range.2 hin) (by rw [hun]; rfl) (by simp [hil]) (fun j hj => by rw [getD_set_ne true (Ne.symm hj)])
          omega
  have hlist : ∀ i, (Array.replicate ops.size false).getD i false = false := fun i => getD_replicate_false _ _
  have h0 := key n (Array.replicate ops.size false) a { w with drawn := w.drawn + 1 } ⟨⟨rfl, rfl, rfl, Nat.le_refl _, fun _ _ => rfl⟩, rfl, rfl, ⟨by simp, (fun j oj hj hl => by rw [hlist] at hl; cases hl), (fun t ht hts => by simp [hts])⟩, fun _ _ => rfl, (fun i hi hl => by rw [hlist] at hl; cases hl), (fun i j _ _ _ hl => by rw [hlist] at hl; cases hl)⟩ (by
    have : (List.range n).countP (fun i => !(Array.replicate ops.size false).getD i true) = (List.range n).countP (fun _ => true) := List.countP_congr fun i hi => by
      have : i < ops.size := by have := List.mem_range.1 hi; omega
      simp [this]
    rw [this]
    simp)
  rw [show n + (ops.size - n) = ops.size by omega] at h0
  exact h0

def putAll : Act → List Tmp → List Value → Act
  | a, s :: S, v :: vs => putAll (a.put (some s) v) S vs
  | a, _, _ => a

theorem putAll_parts (f : Tmp → Value) : ∀ (S : List Tmp) (a : Act), (∀ s, s ∈ S → s < a.tmps.size) → S.Nodup →
    (putAll a S (S.map f)).tmps.size = a.tmps.size ∧ (putAll a S (S.map f)).defers = a.defers ∧ ∀ t, (putAll a S (S.map f)).tmps[t]? = if t ∈ S then some (f t) else a.tmps[t]?
  | [], a, _, _ => ⟨rfl, rfl, fun t => by simp [putAll]⟩
  | s :: S, a, hs, hd => by
    rw [List.nodup_cons] at hd
    obtain ⟨h1, h2, h3⟩ := putAll_parts f S (a.put (some s) (f s)) (fun x hx => by simpa [Act.put] using hs x (by simp [hx])) hd.2
    simp only [List.map_cons, putAll]
    refine ⟨by rw [h1]; simp [Act.put], by rw [h2]; simp [Act.put], fun t => ?_⟩
    rw [h3 t]
    by_cases ht : t ∈ S
    · rw [if_pos ht, if_pos (by simp [ht])]
    · rw [if_neg ht]
      by_cases e : t = s
      · subst e
        rw [if_pos (by simp)]
        have := hs t (by simp)
        simp [Act.put, this]
      · rw [if_neg (by simp [ht, e])]
        simp [Act.put, Array.getElem?_setIfInBounds_ne (Ne.symm e)]

theorem act_all {a a' : Act} {S : List Tmp} (hsz : a'.tmps.size = a.tmps.size) (hd : a'.defers = a.defers) (ho : ∀ t, t ∉ S → a'.tmps[t]? = a.tmps[t]?) (hS : ∀ s, s ∈ S → s < a.tmps.size) (hn : S.Nodup) :
    a' = putAll a S (S.map fun s => a'.eval (.tmp s)) := by
  obtain ⟨h1, h2, h3⟩ := putAll_parts (fun s => a'.eval (.tmp s)) S a hS hn
  generalize putAll a S (S.map fun s => a'.eval (.tmp s)) = b at h1 h2 h3
  obtain ⟨bt, bd⟩ := b
  obtain ⟨ct, cd⟩ := a'
  simp only [] at *
  subst h2 hd
  congr 1
  refine Array.ext_getElem? fun t => ?_
  rw [h3 t]
  by_cases ht : t ∈ S
  · rw [if_pos ht]
    have hlt : t < ct.size := by rw [hsz]; exact hS t ht
    simp [Act.eval, hlt]
  · rw [if_neg ht, ho t ht]

def backWB : Nat → List Oper → Bool
  | _, [] => true
  | i, o :: l => o.after.all (fun e => decide (e.on < i)) && backWB (i + 1) l

theorem backWB_spec : ∀ {l : List Oper} {k : Nat}, backWB k l = true → ∀ j o, l[j]? = some o → ∀ e ∈ o.after, e.on < k + j
  | [], _, _, j, o, h => by simp at h
  | x :: l, k, hs, 0, o, h => by
    simp at h; subst h
    simp only [backWB, Bool.and_eq_true] at hs
    intro e he
    have := Array.all_eq_true_iff_forall_mem.1 hs.1 e he
    simpa using this
  | x :: l, k, hs, j + 1, o, h => by
    simp only [backWB, Bool.and_eq_true] at hs
    have := backWB_spec hs.2 j o (by simpa using h)
    rw [show k + (j + 1) = k + 1 + j by omega]
    exact this

/-- One operation of such a region, at its place i. -/
def GrowStepW (P : Program) (Q : Exit → Act → World → Prop) (a : Act) (w : World) (S : List Tmp) (φ : Nat → Value → World → Prop) (blk : Nat → Value → Option Nat) (i : Nat) (o : Oper) : Prop :=
  o.guard = none ∧ ∀ (a' : Act) (W : World), Below w.heap.size w W → (∀ t, t ∉ S → a'.eval (.tmp t) = a.eval (.tmp t)) →
    (∀ e ∈ o.after, Region.binds .any e = true → φ e.on (a'.eval (.tmp (S.getD e.on 0))) W) →
    ∀ K : Act → World → Prop, (∀ v W', Below W.heap.size W W' → φ i v W' → (∀ b, blk i v = some b → W.heap.size ≤ b) → K (a'.put (some (S.getD i 0)) v) W') → o.wp P a' W K Q

def GrowStepsW (P : Program) (Q : Exit → Act → World → Prop) (a : Act) (w : World) (S : List Tmp) (φ : Nat → Value → World → Prop) (blk : Nat → Value → Option Nat) : Nat → List Oper → Prop
  | _, [] => True
  | i, o :: l => GrowStepW P Q a w S φ blk i o ∧ GrowStepsW P Q a w S φ blk (i + 1) l

theorem GrowStepsW.at {Q : Exit → Act → World → Prop} {a : Act} {w : World} {S : List Tmp} {φ : Nat → Value → World → Prop} {blk : Nat → Value → Option Nat} : ∀ {l : List Oper} {k : Nat},
    GrowStepsW P Q a w S φ blk k l → ∀ j o, l[j]? = some o → GrowStepW P Q a w S φ blk (k + j) o
  | [], _, _, j, o, h => by simp at h
  | x :: l, k, hs, 0, o, h => by simp at h; subst h; exact hs.1
  | x :: l, k, hs, j + 1, o, h => by
    have := GrowStepsW.at hs.2 j o (by simpa using h)
    rw [show k + (j + 1) = k + 1 + j by omega]
    exact this

/-- The law, as a walk uses it: S are the slots of the first operations. -/
theorem wp_region_grows {id : Nat} {l : List Oper} {Q : Exit → Act → World → Prop} {a : Act} {w : World} (S : List Tmp) (φ : Nat → Value → World → Prop) (blk : Nat → Value → Option Nat) (hm : P.follows .mixedOrders = true)
    (hn : S.length < l.length) (hs : Region.sinkB .any ⟨l⟩ S.length = true) (hc : Region.chainB .any ⟨l⟩ S.length = true) (hb : backWB 0 l = true)
    (hS : ∀ s, s ∈ S → s < a.tmps.size) (hd : S.Nodup) (hφ : ∀ i, LastsW (φ i)) (hblk : ∀ i v W b, φ i v W → blk i v = some b → b < W.heap.size)
    (hstep : GrowStepsW P Q a w S φ blk 0 (l.take S.length))
    (htail : ∀ (vs : List Value) (W : World), Below w.heap.size w W → vs.length = S.length → (∀ i v, vs[i]? = some v → φ i v W) → (∀ i j u v, i ≠ j → vs[i]? = some u → vs[j]? = some v → ∀ b c, blk i u = some b → blk j v = some c → b ≠ c) → wpList P ⟨l⟩ Q (l.drop S.length) (putAll a S vs) W) :
    (Code.region id ⟨l⟩ true).wp P Q a w := by
  have hget : ∀ i, i < S.length → S.getD i 0 ∈ S := fun i hi => by simp [List.getD_eq_getElem?_getD, hi]
  have hmem : ∀ t, t ∉ S → ∀ i, i < S.length → S.getD i 0 ≠ t := fun t ht i hi e => ht (e ▸ hget i hi)
  have hof : ∀ t, (∀ i, i < S.length → S.getD i 0 ≠ t) → t ∉ S := fun t ht hm => by
    obtain ⟨i, hi⟩ := List.getElem?_of_mem hm
    have hil := (List.getElem?_eq_some_iff.1 hi).1
    exact ht i hil (by simp [List.getD_eq_getElem?_getD, hi])
  refine wp_region_grows_tail hm S.length hn hs hc (fun i => S.getD i 0) φ blk hφ hblk (fun i hi => hS _ (hget i hi)) ?_ (fun i o ho => by have := backWB_spec hb i o (by simpa using ho); simpa using this) ?_ ?_
  · intro i j hi hj e
    simp only [List.getD_eq_getElem?_getD, List.getElem?_eq_getElem hi, List.getElem?_eq_getElem hj, Option.getD_some] at e
    rcases Nat.lt_trichotomy i j with h | h | h
    · exact absurd e (List.pairwise_iff_getElem.1 hd i j hi hj h)
    · exact h
    · exact absurd e.symm (List.pairwise_iff_getElem.1 hd j i hj hi h)
  · intro i o hi ho
    have hat := hstep.at i o (by rw [List.getElem?_take, if_pos hi]; simpa using ho)
    rw [Nat.zero_add] at hat
    intro a' W hB hsz hold he K hK
    unfold wpOp
    rw [ho]
    simp only []
    rw [if_pos (by simp [Region.wanted, hat.1])]
    refine .inl (hat.2 a' W hB (fun t ht => ?_) he K hK)
    have := hold t (hmem t ht)
    simp [Act.eval, this]
  · intro a' W hB hsz hdf hold hh hap
    have e := act_all (S := S) hsz hdf (fun t ht => hold t (hmem t ht)) hS hd
    rw [e]
    refine htail _ W hB (by simp) (fun i v hv => ?_) (fun i j u v hij hu hv b c eb ec => ?_)
    rotate_left
    · rw [List.getElem?_map] at hu hv
      obtain ⟨s, hs', rfl⟩ := Option.map_eq_some_iff.1 hu
      obtain ⟨t, ht', rfl⟩ := Option.map_eq_some_iff.1 hv
      refine hap i j (List.getElem?_eq_some_iff.1 hs').1 (List.getElem?_eq_some_iff.1 ht').1 hij b c ?_ ?_
      · simpa only [List.getD_eq_getElem?_getD, hs', Option.getD_some] using eb
      · simpa only [List.getD_eq_getElem?_getD, ht', Option.getD_some] using ec
    rw [List.getElem?_map] at hv
    obtain ⟨s, hs', rfl⟩ := Option.map_eq_some_iff.1 hv
    have hil := (List.getElem?_eq_some_iff.1 hs').1
    have := hh i hil
    simp only [List.getD_eq_getElem?_getD, hs', Option.getD_some] at this
    exact this

/-- One operation of a region whose slots' values are all known ahead: it yields its value, or is passed over. -/
def FixedStep (P : Program) (ops : Array Oper) (Q : Exit → Act → World → Prop) (a : Act) (w : World) (S : List Tmp) (vals : List Value) (i : Nat) (o : Oper) : Prop :=
  ((o.guard = none ∨ ∃ g want og, o.guard = some (g, want) ∧ (∃ e ∈ o.after, e.on = g ∧ Region.binds .any e = true) ∧ ops[g]? = some og ∧ og.dst = some (S.getD g 0) ∧ g < S.length ∧ vals.getD g undef = .bool want) ∧
    ∀ (a' : Act) (W : World), Below w.heap.size w W → (∀ t, t ∉ S → a'.eval (.tmp t) = a.eval (.tmp t)) →
    (∀ e ∈ o.after, Region.binds .any e = true → a'.eval (.tmp (S.getD e.on 0)) = vals.getD e.on undef) →
    ∀ K : Act → World → Prop, (∀ W', Below W.heap.size W W' → K (a'.put (some (S.getD i 0)) (vals.getD i undef)) W') → o.wp P a' W K Q) ∨
  (o.dst = some (S.getD i 0) ∧ vals.getD i undef = undef ∧ ∃ g want og, o.guard = some (g, want) ∧ (∃ e ∈ o.after, e.on = g ∧ Region.binds .any e = true) ∧ ops[g]? = some og ∧ og.dst = some (S.getD g 0) ∧ g < S.length ∧ vals.getD g undef ≠ .bool want)

def FixedSteps (P : Program) (ops : Array Oper) (Q : Exit → Act → World → Prop) (a : Act) (w : World) (S : List Tmp) (vals : List Value) : Nat → List Oper → Prop
  | _, [] => True
  | i, o :: l => FixedStep P ops Q a w S vals i o ∧ FixedSteps P ops Q a w S vals (i + 1) l

theorem FixedSteps.at {ops : Array Oper} {Q : Exit → Act → World → Prop} {a : Act} {w : World} {S : List Tmp} {vals : List Value} : ∀ {l : List Oper} {k : Nat},
    FixedSteps P ops Q a w S vals k l → ∀ j o, l[j]? = some o → FixedStep P ops Q a w S vals (k + j) o
  | [], _, _, j, o, h => by simp at h
  | x :: l, k, hs, 0, o, h => by simp at h; subst h; exact hs.1
  | x :: l, k, hs, j + 1, o, h => by
    have := FixedSteps.at hs.2 j o (by simpa using h)
    rw [show k + (j + 1) = k + 1 + j by omega]
    exact this

theorem yielded_at {ops : Array Oper} {a : Act} {g : Nat} {og : Oper} {t : Tmp} (h1 : ops[g]? = some og) (h2 : og.dst = some t) (ht : t < a.tmps.size) (want : Bool) :
    (yielded ops a.tmps g == some want) = true ↔ a.eval (.tmp t) = .bool want := by
  have e : a.tmps[t]? = some (a.eval (.tmp t)) := by simp [Act.eval, ht]
  unfold yielded
  rw [h1]
  simp only [Option.bind_some, h2, e]
  cases hv : a.eval (.tmp t) <;> simp

/-- A drawn region whose slots' values are all known ahead, but for its last operations, which come behind the others in their order. -/
theorem wp_region_fixed {id : Nat} {l : List Oper} {Q : Exit → Act → World → Prop} {a : Act} {w : World} (S : List Tmp) (vals : List Value) (hm : P.follows .mixedOrders = true)
    (hn : S.length < l.length) (hv : vals.length = S.length) (hs : Region.sinkB .any ⟨l⟩ S.length = true) (hc : Region.chainB .any ⟨l⟩ S.length = true) (hb : backWB 0 l = true)
    (hS : ∀ s, s ∈ S → s < a.tmps.size) (hd : S.Nodup)
    (hstep : FixedSteps P ⟨l⟩ Q a w S vals 0 (l.take S.length))
    (htail : ∀ (W : World), Below w.heap.size w W → wpList P ⟨l⟩ Q (l.drop S.length) (putAll a S vals) W) :
    (Code.region id ⟨l⟩ true).wp P Q a w := by
  have hget : ∀ i, i < S.length → S.getD i 0 ∈ S := fun i hi => by simp [List.getD_eq_getElem?_getD, hi]
  have hmem : ∀ t, t ∉ S → ∀ i, i < S.length → S.getD i 0 ≠ t := fun t ht i hi e => ht (e ▸ hget i hi)
  refine wp_region_grows_tail hm S.length hn hs hc (fun i => S.getD i 0) (fun i v _ => v = vals.getD i undef) (fun _ _ => none) (fun i v W W' _ h => h) (fun _ _ _ _ _ h => by cases h) (fun i hi => hS _ (hget i hi)) ?_ (fun i o ho => by have := backWB_spec hb i o (by simpa using ho); simpa using this) ?_ ?_
  · intro i j hi hj e
    simp only [List.getD_eq_getElem?_getD, List.getElem?_eq_getElem hi, List.getElem?_eq_getElem hj, Option.getD_some] at e
    rcases Nat.lt_trichotomy i j with h | h | h
    · exact absurd e (List.pairwise_iff_getElem.1 hd i j hi hj h)
    · exact h
    · exact absurd e.symm (List.pairwise_iff_getElem.1 hd j i hj hi h)
  · intro i o hi ho a' W hB hsz hold he K hK
    have hat := hstep.at i o (by rw [List.getElem?_take, if_pos hi]; simpa using ho)
    rw [Nat.zero_add] at hat
    have hold' : ∀ t, t ∉ S → a'.eval (.tmp t) = a.eval (.tmp t) := fun t ht => by
      have := hold t (hmem t ht)
      simp [Act.eval, this]
    unfold wpOp
    rw [ho]
    simp only []
    rcases hat with ⟨hw, hst⟩ | ⟨hdst, hun, g, want, og, hg, ⟨e, he1, he2, he3⟩, h1, h2, hgl, h3⟩
    · have hwant : Region.wanted o (yielded ⟨l⟩ a'.tmps) = true := by
        rcases hw with hw | ⟨g, want, og, hg, ⟨e, he1, he2, he3⟩, h1, h2, hgl, h3⟩
        · simp [Region.wanted, hw]
        · unfold Region.wanted
          rw [hg]
          simp only []
          rw [yielded_at h1 h2 (by rw [hsz]; exact hS _ (hget g hgl)) want]
          have := he e he1 he3
          rw [he2] at this
          rw [this, h3]
      rw [if_pos hwant]
      exact .inl (hst a' W hB hold' (fun e h1 h2 => he e h1 h2) K fun W' hB' => hK _ _ hB' rfl (fun _ h => by cases h))
    · have hwant : Region.wanted o (yielded ⟨l⟩ a'.tmps) = false := by
        unfold Region.wanted
        rw [hg]
        simp only []
        cases hy : (yielded ⟨l⟩ a'.tmps g == some want) with
        | false => rfl
        | true =>
          have h4 := (yielded_at h1 h2 (by rw [hsz]; exact hS _ (hget g hgl)) want).1 hy
          have := he e he1 he3
          rw [he2] at this
          exact absurd (this.symm.trans h4) h3
      rw [if_neg (by rw [hwant]; simp), hdst]
      exact hK undef W (Below.refl _ _) hun.symm (fun _ h => by cases h)
  · intro a' W hB hsz hdf hold hh hap
    have e := act_all (S := S) hsz hdf (fun t ht => hold t (hmem t ht)) hS hd
    have e2 : (S.map fun s => a'.eval (.tmp s)) = vals := by
      apply List.ext_getElem?
      intro i
      rw [List.getElem?_map]
      by_cases hi : i < S.length
      · have := hh i hi
        have hiv : i < vals.length := by omega
        simp only [List.getD_eq_getElem?_getD, List.getElem?_eq_getElem hi, List.getElem?_eq_getElem hiv, Option.getD_some] at this
        rw [List.getElem?_eq_getElem hi, List.getElem?_eq_getElem hiv, Option.map_some, this]
      · rw [List.getElem?_eq_none (by omega), List.getElem?_eq_none (by omega)]
        rfl
    rw [e, e2]
    exact htail W hB

theorem wp_step_load {o : Oper} {a : Act} {w : World} {K : Act → World → Prop} {Q : Exit → Act → World → Prop} (t : TypeId) (x : Operand) (v : Value) (ho : o.op = .load t x) (p : Value) (hp : a.eval x = p)
    (hl : (Instr.loadAt t p).run P w = .ok v w) (h : K (a.put o.dst v) w) : o.wp P a w K Q := by
  unfold Oper.wp
  have he : (execOp a.eval o).run P w = .ok (.value v) w := by
    unfold execOp
    rw [ho]
    show ((Instr.loadAt t (a.eval x)).bind fun y => pure (Next.value y)).run P w = _
    rw [hp]
    simp only [Sem.run_bind', hl, Result.andThen]
    rfl
  rw [he]
  exact h

theorem wp_step_call {o : Oper} {a : Act} {w : World} {K : Act → World → Prop} {Q : Exit → Act → World → Prop} (f : FuncId) (args : Array Value) (he : (execOp a.eval o).run P w = .ok (.enter f args) w)
    (h : Calls P f args w fun e w' => ∃ v, e = .returned v ∧ K (a.put o.dst v) w') : o.wp P a w K Q := by
  unfold Oper.wp
  rw [he]
  refine h.mono ?_
  rintro e w' ⟨v, rfl, hk⟩
  exact hk

theorem wp_step_run {o : Oper} {a : Act} {w w' : World} {K : Act → World → Prop} {Q : Exit → Act → World → Prop} (v : Value) (he : (execOp a.eval o).run P w = .ok (.value v) w')
    (h : K (a.put o.dst v) w') : o.wp P a w K Q := by
  unfold Oper.wp
  rw [he]
  exact h

theorem fx_move {o : Oper} {a : Act} {w : World} {K : Act → World → Prop} {Q : Exit → Act → World → Prop} (x : Operand) (v : Value) (ho : o.op = .move x ∨ o.op = .assign x) (hx : a.eval x = v) (h : K (a.put o.dst v) w) : o.wp P a w K Q := by
  refine wp_step_run v ?_ h
  unfold execOp
  rcases ho with ho | ho <;> rw [ho] <;> simp only [hx] <;> rfl

theorem fx_pick {o : Oper} {a : Act} {w : World} {K : Act → World → Prop} {Q : Exit → Act → World → Prop} (c x y : Operand) (b : Bool) (v : Value) (ho : o.op = .pick c x y) (hc : a.eval c = .bool b) (hx : a.eval (if b then x else y) = v)
    (h : K (a.put o.dst v) w) : o.wp P a w K Q := by
  refine wp_step_run v ?_ h
  unfold execOp
  rw [ho]
  simp only [hc]
  cases b
  · simp only [Bool.false_eq_true, if_false] at hx
    rw [← hx]; rfl
  · simp only [if_true] at hx
    rw [← hx]; rfl

theorem fx_not {o : Oper} {a : Act} {w : World} {K : Act → World → Prop} {Q : Exit → Act → World → Prop} (t : TypeId) (x : Operand) (b : Bool) (ho : o.op = .unOp .not t x) (hx : a.eval x = .bool b) (h : K (a.put o.dst (.bool (!b))) w) : o.wp P a w K Q := by
  refine wp_step_run _ ?_ h
  unfold execOp
  rw [ho]
  simp only [hx]
  rfl

theorem fx_bin {o : Oper} {a : Act} {w : World} {K : Act → World → Prop} {Q : Exit → Act → World → Prop} (op : BinOp) (t t2 : TypeId) (x y : Operand) (u1 u2 v : Value) (ho : o.op = .binOp op t x y t2) (hx : a.eval x = u1) (hy : a.eval y = u2)
    (hg : (eqGuard op t x y u1 u2).run P w = .ok () w) (hr : (binOp op t u1 u2).run P w = .ok v w) (h : K (a.put o.dst v) w) : o.wp P a w K Q := by
  refine wp_step_run v ?_ h
  unfold execOp
  rw [ho]
  simp only [hx, hy]
  simp [hg, hr, Result.andThen]

theorem fx_field {o : Oper} {a : Act} {w : World} {K : Act → World → Prop} {Q : Exit → Act → World → Prop} (s : TypeId) (x : Operand) (f : Nat) (p v : Value) (ho : o.op = .fieldAddr s x f) (hx : a.eval x = p)
    (hr : (Instr.fieldAt s p f).run P w = .ok v w) (h : K (a.put o.dst v) w) : o.wp P a w K Q := by
  refine wp_step_run v ?_ h
  unfold execOp
  rw [ho]
  simp only [hx]
  simp [hr, Result.andThen]

theorem fx_nil {o : Oper} {a : Act} {w : World} {K : Act → World → Prop} {Q : Exit → Act → World → Prop} (x : Operand) (p : Addr) (ho : o.op = .nilCheck x) (hx : a.eval x = .pointer (some p)) (h : K (a.put o.dst (.pointer (some p))) w) : o.wp P a w K Q := by
  refine wp_step_run _ ?_ h
  unfold execOp
  rw [ho]
  simp only [hx]
  rfl

theorem fx_lookup {o : Oper} {a : Act} {w : World} {K : Act → World → Prop} {Q : Exit → Act → World → Prop} (T : TypeId) (x y : Operand) (ok : Bool) (u1 u2 v : Value) (ho : o.op = .lookup T x y ok) (hx : a.eval x = u1) (hy : a.eval y = u2)
    (hr : (Instr.lookup T u1 u2 ok).run P w = .ok v w) (h : K (a.put o.dst v) w) : o.wp P a w K Q := by
  refine wp_step_run v ?_ h
  unfold execOp
  rw [ho]
  simp only [hx, hy]
  simp [hr, Result.andThen]
end
end Go.Proofs.Ytkflofjcjolehaa
