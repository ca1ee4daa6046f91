import Derived.OrdersIn
import Derived.Below
import Derived.WalkKit
/-! A drawn region whose operations each lay something new and touch nothing old: whatever the order, each slot holds what it is to hold. -/
namespace Go.Proofs.Ytdlgipoaimgbpaa
open Go.RowKit

/-- What stays as long as no block that is there is touched. -/
def Lasts (φ : Value → World → Prop) : Prop := ∀ v W W', Below W.heap.size W W' → φ v W → φ v W'

section
variable {F : Fence} {n : Nat} {P : Program}

/-- Where a region of growing operations stands: what is listed holds; all other slots are as they were. -/
structure GrowAt (ops : Array Oper) (slot : Nat → Tmp) (φ : Nat → Value → World → Prop) (w : World) (a : Act) (listed : Array Bool) (a' : Act) (W : World) : Prop where
  below : Below w.heap.size w W
  tsize : a'.tmps.size = a.tmps.size
  defers : a'.defers = a.defers
  lsize : listed.size = ops.size
  other : ∀ t, (∀ i, i < ops.size → slot i ≠ t) → a'.tmps[t]? = a.tmps[t]?
  has : ∀ i, i < ops.size → listed.getD i false = true → φ i (a'.eval (.tmp (slot i))) W

theorem eval_put_same {a : Act} {t : Tmp} {v : Value} (h : t < a.tmps.size) : (a.put (some t) v).eval (.tmp t) = v := by
  simp [Act.put, Act.eval, h]

theorem eval_put_other {a : Act} {t u : Tmp} {v : Value} (h : t ≠ u) : (a.put (some t) v).eval (.tmp u) = a.eval (.tmp u) := by
  simp [Act.put, Act.eval, Array.getElem?_setIfInBounds_ne h]

theorem countP_less {p q : Nat → Bool} {i : Nat} (h : ∀ j, p j = true → q j = true) : ∀ {l : List Nat}, i ∈ l → q i = true → p i = false → l.countP p < l.countP q
  | x :: l, hi, hq, hp => by
    rw [List.countP_cons, List.countP_cons]
    have hle : l.countP p ≤ l.countP q := List.countP_mono_left fun j _ hj => h j hj
    rcases List.mem_cons.1 hi with rfl | hi
    · rw [hq, hp]; simp; omega
    · have := countP_less h hi hq hp
      cases hx : p x
      · simp; omega
      · rw [h x hx]; simp; omega

theorem wpIn_region_grow {id : Nat} {ops : Array Oper} {Q : Exit → Act → World → Prop} {a : Act} {w : World} (hm : P.follows .mixedOrders = true)
    (slot : Nat → Tmp) (φ : Nat → Value → World → Prop) (hφ : ∀ i, Lasts (φ i))
    (hslot : ∀ i, i < ops.size → slot i < a.tmps.size)
    (hinj : ∀ i j, i < ops.size → j < ops.size → slot i = slot j → i = j)
    (hback : ∀ (i : Nat) (o : Oper), ops[i]? = some o → ∀ e ∈ o.after, e.on < i)
    (hstep : ∀ (i : Nat) (o : Oper), ops[i]? = some o → ∀ (a' : Act) (W : World), Below w.heap.size w W → a'.tmps.size = a.tmps.size → (∀ t, (∀ i, i < ops.size → slot i ≠ t) → a'.tmps[t]? = a.tmps[t]?) →
      (∀ e ∈ o.after, Region.binds .any e = true → φ e.on (a'.eval (.tmp (slot e.on))) W) →
      ∀ K : Act → World → Prop, (∀ v W', Below W.heap.size W W' → φ i v W' → K (a'.put (some (slot i)) v) W') → wpOpIn F n P ops Q i K a' W)
    (hall : ∀ (a' : Act) (W : World), Below w.heap.size w W → a'.tmps.size = a.tmps.size → a'.defers = a.defers → (∀ t, (∀ i, i < ops.size → slot i ≠ t) → a'.tmps[t]? = a.tmps[t]?) →
      (∀ i, i < ops.size → φ i (a'.eval (.tmp (slot i))) W) → Q .normal a' W) :
    (Code.region id ops true).wpIn F n P Q a w := by
  refine wpIn_region_any hm ?_
  have key : ∀ (fuel : Nat) (listed : Array Bool) (a' : Act) (W : World), GrowAt ops slot φ w a listed a' W → (∀ m, (List.range ops.size).countP (fun i => !listed.getD i true) = m → m ≤ fuel) →
      wpAnyIn F n P .any ops Q fuel listed a' W := by
    intro fuel
    have fin : ∀ (listed : Array Bool) (a' : Act) (W : World), GrowAt ops slot φ w a listed a' W → Region.ready .any ops listed = [] → Q .normal a' W := by
      intro listed a' W g h0
      refine hall a' W g.below g.tsize g.defers g.other ?_
      have al : ∀ m i, i < m → i < ops.size → listed.getD i false = true := by
        intro m
        induction m with
        | zero => intro i h; omega
        | succ m ih =>
          intro i hi his
          rcases Nat.lt_or_ge i m with h | h
          · exact ih i h his
          · have him : i = m := by omega
            subst him
            cases hl : listed.getD i false with
            | true => rfl
            | false =>
              have hr : i ∈ Region.ready .any ops listed := by
                rw [mem_ready]
                have hil : i < listed.size := by rw [g.lsize]; exact his
                refine ⟨?_, ops[i], by simp [his], fun e he _ => ih e.on (hback i _ (by simp [his]) e he) (by have := hback i ops[i] (by simp [his]) e he; omega)⟩
                simp [hil] at hl ⊢
                exact hl
              rw [h0] at hr
              cases hr
      exact fun i hi => g.has i hi (al (i + 1) i (by omega) hi)
    induction fuel with
    | zero =>
      intro listed a' W g hc
      have h0 := hc _ rfl
      have hr : Region.ready .any ops listed = [] := by
        rw [List.eq_nil_iff_forall_not_mem]
        intro i hi
        have hi' := (mem_ready.1 hi).1
        have hs : i < ops.size := by obtain ⟨_, o, ho, _⟩ := mem_ready.1 hi; exact (Array.getElem?_eq_some_iff.1 ho).1
        have : 0 < (List.range ops.size).countP (fun i => !listed.getD i true) := List.countP_pos_iff.2 ⟨i, by simpa using hs, by rw [hi']; rfl⟩
        omega
      exact ⟨hr, fin listed a' W g hr⟩
    | succ fuel ih =>
      intro listed a' W g hc
      refine ⟨fun h0 => fin listed a' W g h0, fun i hi => ?_⟩
      obtain ⟨hun, o, ho, hedges⟩ := mem_ready.1 hi
      have his : i < ops.size := (Array.getElem?_eq_some_iff.1 ho).1
      have hil : i < listed.size := by rw [g.lsize]; exact his
      refine hstep i o ho a' W g.below g.tsize g.other (fun e he hb => g.has e.on (by have := hback i o ho e he; omega) (hedges e he hb)) _ fun v W' hB hv => ih _ _ _ ?_ ?_
      · refine ⟨g.below.trans (hB.mono g.below.size), by simp [Act.put]; exact g.tsize, by simp [Act.put]; exact g.defers, by simp; exact g.lsize, fun t ht => ?_, fun j hj hl => ?_⟩
        · have := ht i his
          rw [← g.other t ht]
          simp [Act.put, Array.getElem?_setIfInBounds_ne this]
        · by_cases hij : i = j
          · subst hij
            rw [eval_put_same (by rw [g.tsize]; exact hslot i his)]
            exact hv
          · rw [eval_put_other (fun h => hij (hinj i j his hj h))]
            rw [getD_set_ne false hij] at hl
            exact hφ j _ _ _ hB (g.has j hj hl)
      · intro m hm'
        have h1 := hc _ rfl
        have : (List.range ops.size).countP (fun j => !(listed.setIfInBounds i true).getD j true) < (List.range ops.size).countP (fun j => !listed.getD j true) := by
          refine countP_less (i := i) (fun j hj => ?_) (by simpa using his) (by rw [hun]; rfl) (by simp [hil])
          by_cases hij : i = j
          · subst hij; simp [hil] at hj
          · rw [getD_set_ne true hij] at hj; exact hj
        omega
  refine key ops.size _ a _ ⟨⟨rfl, rfl, rfl, Nat.le_refl _, fun _ _ => rfl⟩, rfl, rfl, by simp, fun _ _ => rfl, fun i hi hl => ?_⟩ fun m hm' => ?_
  · simp [hi] at hl
  · have := List.countP_le_length (p := fun i => !(Array.replicate ops.size false).getD i true) (l := List.range ops.size)
    simp only [List.length_range] at this
    omega

/-- One operation of such a region, at its place i. -/
def GrowStep (F : Fence) (n : Nat) (P : Program) (Q : Exit → Act → World → Prop) (a : Act) (w : World) (slot : Nat → Tmp) (old : Tmp → Prop) (φ : Nat → Value → World → Prop) (i : Nat) (o : Oper) : Prop :=
  o.guard = none ∧ ∀ (a' : Act) (W : World), Below w.heap.size w W → a'.tmps.size = a.tmps.size → (∀ t, old t → a'.tmps[t]? = a.tmps[t]?) →
    (∀ e ∈ o.after, Region.binds .any e = true → φ e.on (a'.eval (.tmp (slot e.on))) W) →
    ∀ K : Act → World → Prop, (∀ v W', Below W.heap.size W W' → φ i v W' → K (a'.put (some (slot i)) v) W') → o.wpIn F n P a' W K Q

def GrowSteps (F : Fence) (n : Nat) (P : Program) (Q : Exit → Act → World → Prop) (a : Act) (w : World) (slot : Nat → Tmp) (old : Tmp → Prop) (φ : Nat → Value → World → Prop) : Nat → List Oper → Prop
  | _, [] => True
  | i, o :: l => GrowStep F n P Q a w slot old φ i o ∧ GrowSteps F n P Q a w slot old φ (i + 1) l

theorem GrowSteps.at {Q : Exit → Act → World → Prop} {a : Act} {w : World} {slot : Nat → Tmp} {old : Tmp → Prop} {φ : Nat → Value → World → Prop} : ∀ {l : List Oper} {k : Nat},
    GrowSteps F n P Q a w slot old φ k l → ∀ j o, l[j]? = some o → GrowStep F n P Q a w slot old φ (k + j) o
  | [], _, _, j, o, h => by simp at h
  | x :: l, k, hs, 0, o, h => by simp at h; subst h; exact hs.1
  | x :: l, k, hs, j + 1, o, h => by
    have := GrowSteps.at hs.2 j o (by simpa using h)
    rw [show k + (j + 1) = k + 1 + j by omega]
    exact this

def backB : Nat → List Oper → Bool
  | _, [] => true
  | i, o :: l => o.after.all (fun e => decide (e.on < i)) && backB (i + 1) l

theorem backB_spec : ∀ {l : List Oper} {k : Nat}, backB k l = true → ∀ j o, l[j]? = some o → ∀ e ∈ o.after, e.on < k + j
  | [], _, _, j, o, h => by simp at h
  | x :: l, k, hs, 0, o, h => by
    simp at h; subst h
    simp only [backB, Bool.and_eq_true] at hs
    intro e he
    have := Array.all_eq_true_iff_forall_mem.1 hs.1 e he
    simpa using this
  | x :: l, k, hs, j + 1, o, h => by
    simp only [backB, Bool.and_eq_true] at hs
    have := backB_spec hs.2 j o (by simpa using h)
    rw [show k + (j + 1) = k + 1 + j by omega]
    exact this

theorem wpIn_region_grows {id : Nat} {l : List Oper} {Q : Exit → Act → World → Prop} {a : Act} {w : World} (hm : P.follows .mixedOrders = true)
    (d m : Nat) (φ : Nat → Value → World → Prop) (hφ : ∀ i, Lasts (φ i)) (hl : l.length = m) (hsz : m + d ≤ a.tmps.size) (hback : backB 0 l = true)
    (hstep : GrowSteps F n P Q a w (· + d) (fun t => t < d) φ 0 l)
    (hall : ∀ (a' : Act) (W : World), Below w.heap.size w W → a'.tmps.size = a.tmps.size → a'.defers = a.defers → (∀ t, t < d ∨ m + d ≤ t → a'.tmps[t]? = a.tmps[t]?) →
      (∀ i, i < m → φ i (a'.eval (.tmp (i + d))) W) → Q .normal a' W) :
    (Code.region id ⟨l⟩ true).wpIn F n P Q a w := by
  subst hl
  refine wpIn_region_grow hm (· + d) φ hφ (fun i hi => by have h1 : i < l.length := hi; show i + d < a.tmps.size; omega) (fun i j _ _ h => Nat.add_right_cancel h) (fun i o ho => by have := backB_spec hback i o (by simpa using ho); simpa using this) ?_ ?_
  · intro i o ho a' W hB hs hold he K hK
    have hat := hstep.at i o (by simpa using ho)
    rw [Nat.zero_add] at hat
    obtain ⟨hg, hst⟩ := hat
    refine wpOpIn_step ho fun K' hK' => ?_
    have hw : Region.wanted o (yielded ⟨l⟩ a'.tmps) = true := by simp [Region.wanted, hg]
    rw [if_pos hw]
    refine hst a' W hB hs (fun t ht => hold t fun i hi h => by have h1 : (i + d : Nat) = t := h; have h2 : @LT.lt Nat _ t d := ht; omega) he K' fun v W' h1 h2 => hK' _ _ (hK v W' h1 h2)
  · intro a' W hB hs hd hold hh
    exact hall a' W hB hs hd (fun t ht => hold t fun i hi h => by have h1 : i + d = t := h; have h2 : i < l.length := hi; omega) (fun i hi => hh i hi)

end
end Go.Proofs.Ytdlgipoaimgbpaa
