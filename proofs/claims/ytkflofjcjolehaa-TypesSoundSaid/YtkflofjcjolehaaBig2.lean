/- Types: lemmas on what the functions that the laws reach answer. No conditions of their own beyond those that each theorem states. -/
import Derived.RangeFuncNested
import Derived.RangeFuncBound
import Derived.RangeFuncCalls
import Derived.RangeFuncLeaves
import Derived.Shelf.Abstract
import Derived.Shelf.RegionOpen
import Derived.WalkKit
import Derived.OwnWalkIn
import Derived.TacticsInMore
import Derived.LoopNIn
import Derived.LoopIn
/-! Ranging over a function whose rounds are told a fact on what they are handed, in the world in which it is handed. -/
namespace Go.Proofs.Ytkflofjcjolehaa
open Go.RowKit Go.Shelf

/-- What a growing heap leaves as it is. -/
def Grows {β : Type} (J : β → World → Prop) : Prop := ∀ s W W', J s W → W.grownBy W' none → J s W'

/-- What a turn of a block that is no cells leaves as it is, too. -/
def Stays {β : Type} (B : Nat) (J : β → World → Prop) : Prop := ∀ s W l o, J s W → B ≤ l → (∃ o', W.heap[l]? = some o' ∧ o'.isCells = false) → J s (W.putObj l o)

section
variable {α : Type} {F : Fence} {n : Nat} {P : Program}

/-- An iterator: fact is what a round is told of the element x behind the elements pre; keep: what a round that goes on keeps; ends, stops: what holds where all have come, where a round has said 'no more'. -/
def SeqOf (F : Fence) (n : Nat) (P : Program) (g : Nat) (lb : Array Value) (encs : α → Array Value) (fact : List α → α → World → Prop) (keep : α → World → World → Prop) (ends stops : List α → World → Prop) (w : World) : Prop :=
  ∀ (l : Nat) (J Jx : List α → World → Prop) (W : World), Below w.heap.size w W → Grows J → Grows Jx →
    (∀ pre x W1, J pre W1 → fact pre x W1 → YieldAt F (n - 1) P l (encs x) W1 fun e W' =>
      (e = .returned (.bool true) ∧ J (pre ++ [x]) W' ∧ keep x W1 W') ∨ (e = .returned (.bool false) ∧ Jx (pre ++ [x]) W')) →
    J [] W →
    CallsIn F n P g (#[.func (.yield l) #[] #[]] ++ lb) W fun e W' => (∃ v, e = .returned v) ∧ ((∃ xs, ends xs W' ∧ J xs W') ∨ (∃ pre, stops pre W' ∧ Jx pre W'))

/-- How a round may be left. -/
def roundEnd (B : Nat) (keep : World → World → Prop) (I : World → Prop) (Ix : Code → World → Prop) (W : World) : Exit → Act → World → Prop
  | .normal, _, W' => KeepsFrom B W W' ∧ keep W W' ∧ I W'
  | .ret, _, W' => KeepsFrom B W W' ∧ Ix .ret W'
  | .exit id, _, W' => KeepsFrom B W W' ∧ Ix (.exit id) W'
  | .goto t, _, W' => KeepsFrom B W W' ∧ Ix (.goto t) W'
  | .panic _, _, _ => False
  | .outgrown, _, _ => False

theorem wpIn_range_of {g : Operand} {ps : Array Tmp} {assign body : Code} {Q : Exit → Act → World → Prop} {a : Act} {w : World}
    (hro : F.round = none) (h1 : 1 ≤ n) {gf : Nat} {lb : Array Value} (hg : a.eval g = .func (.func gf) #[] lb) (hFg : F.fn gf) (eg : ∀ args w, (callFunc gf args).run P w = .ok (.enter gf args) w)
    {encs : α → Array Value} {fact : List α → α → World → Prop} {keep : α → World → World → Prop} {ends stops : List α → World → Prop} {w0 : World}
    (hseq : SeqOf F (n - 1) P gf lb encs fact keep ends stops w0) (hb0 : Below w0.heap.size w0 w) (hps : ∀ x, (encs x).size = ps.size)
    (hfact : ∀ x, Stays w.heap.size (fun pre => fact pre x)) (hends : Stays w.heap.size ends) (hstops : Stays w.heap.size stops)
    (hkeep : ∀ x A C l o o', w.heap.size ≤ l → (∃ q, A.heap[l]? = some q ∧ q.isCells = false) → (∃ q, C.heap[l]? = some q ∧ q.isCells = false) → keep x (A.putObj l o) C → keep x A (C.putObj l o'))
    (I : List α → World → Prop) (Ix : Code → List α → World → Prop) (hIg : Grows I) (hIs : Stays w.heap.size I) (hXg : ∀ c, Grows (Ix c)) (hXs : ∀ c, Stays w.heap.size (Ix c))
    (h0 : I [] w) (Ax : α → Act → World → Prop) (hAx : ∀ x a1, Stays w.heap.size (fun (_ : List α) => Ax x a1)) (hfg : ∀ x, Grows (fun pre => fact pre x))
    (hk0 : ∀ x W W1 W3, W.grownBy W1 none → keep x W1 W3 → keep x W W3)
    (hassign : ∀ (l : Nat) (pre : List α) (x : α) (W : World) (K : Act → World → Prop), I pre W → fact pre x W → w.heap.size ≤ W.heap.size → (∀ a1 W1, W.grownBy W1 none → Ax x a1 W1 → K a1 W1) →
      assign.wpIn (F.inRound l) (n - 1 - 1) P (Exit.then K (fun _ _ _ => False)) { tmps := (ps.zip (encs x)).foldl (fun t (p, v) => t.setIfInBounds p v) a.tmps, defers := [] } W)
    (hbody : ∀ (l : Nat) (pre : List α) (x : α) (a1 : Act) (W : World), Ax x a1 W → I pre W → fact pre x W → w.heap.size ≤ W.heap.size → body.wpIn (F.inRound l) (n - 1 - 1) P (roundEnd w.heap.size (keep x) (I (pre ++ [x])) (fun c => Ix c (pre ++ [x])) W) a1 W)
    (hdone : ∀ (D : Nat) (xs : List α) (W : World), w.heap.size ≤ D → ends xs W → I xs W → W.heap[D]? = some (.deferred (some [])) → Q .normal { a with defers := { target := .collected D, args := #[] } :: a.defers } W)
    (hstop : ∀ (D : Nat) (c : Code) (pre : List α) (W : World), w.heap.size ≤ D → stops pre W → Ix c pre W → W.heap[D]? = some (.deferred (some [])) → c.wpIn F n P Q { a with defers := { target := .collected D, args := #[] } :: a.defers } W) :
    (Code.rangeFunc g ps assign body).wpIn F n P Q a w := by
  refine wpIn_rangeFunc fun fn hfn => ?_
  rw [hro]
  -- the two blocks that the statement lays: the rounds' deferred calls (d), the record (r)
  obtain ⟨rec, hrec⟩ : ∃ rec : LoopState → Option Code → Loop, ∀ st pe, rec st pe = { state := st, pending := pe, fn, tmps := a.tmps, params := ps, assign, body, defers := w.heap.size } := ⟨fun st pe => _, fun _ _ => rfl⟩
  obtain ⟨d, hd⟩ : ∃ d, d = w.heap.size := ⟨_, rfl⟩
  obtain ⟨V, hV⟩ : ∃ V, V = (w.alloc (.deferred (some []))).alloc (.loop (rec .ready none)) := ⟨_, rfl⟩
  have hVr : V.heap[d + 1]? = some (.loop (rec .ready none)) := by
    have := World.alloc_heap_new (w.alloc (.deferred (some []))) (.loop (rec .ready none))
    rw [World.size_alloc] at this
    rw [hV, hd]
    exact this
  have hVd : V.heap[d]? = some (.deferred (some [])) := by
    rw [hV, hd]
    exact (Below.heap_alloc _ _ _ (by simp)).trans (World.alloc_heap_new w _)
  have hVg : w.grownBy V none := by
    rw [hV]
    exact ⟨rfl, rfl, rfl, by simp; omega, fun k hk _ => (Below.heap_alloc _ _ k (by simp; omega)).trans (Below.heap_alloc w _ k hk)⟩
  have hVB : Below w0.heap.size w0 V := by
    rw [hV]
    exact (hb0.alloc hb0.size _).alloc (by have := hb0.size; simp; omega) _
  refine ⟨d + 1, [{ target := .collected d, args := #[] }], V, { target := .fn (.func gf) lb, args := #[.func (.yield (d + 1)) #[] #[]] }, V, gf, #[.func (.yield (d + 1)) #[] #[]] ++ lb, V, ?_, ?_, ?_, ?_, fun _ => h1, ?_⟩
  · rw [hV, hrec, hd]
    exact run_enterLoop_outer _ _ _ _ _
  · simp only [resolve, hg]
    simp [go_sem]
  · intro f' hf'
    simp [Target.leads] at hf'
    subst hf'
    exact hFg
  · simp [invoke, go_sem, eg]
  · -- the invariant, with the two blocks beside it
    refine (hseq (d + 1) (fun pre W => I pre W ∧ W.heap[d + 1]? = some (.loop (rec .ready none)) ∧ W.heap[d]? = some (.deferred (some [])))
      (fun pre W => ∃ c, Ix c pre W ∧ W.heap[d + 1]? = some (.loop (rec .done (some c))) ∧ W.heap[d]? = some (.deferred (some []))) V hVB ?_ ?_ ?_ ⟨hIg _ _ _ h0 hVg, hVr, hVd⟩).mono ?_
    · rintro s A B ⟨hi, hr, hk⟩ hgr
      exact ⟨hIg _ _ _ hi hgr, (hgr.block _ (Array.getElem?_eq_some_iff.1 hr).1 (by simp)).trans hr, (hgr.block _ (Array.getElem?_eq_some_iff.1 hk).1 (by simp)).trans hk⟩
    · rintro s A B ⟨c, hi, hr, hk⟩ hgr
      exact ⟨c, hXg c _ _ _ hi hgr, (hgr.block _ (Array.getElem?_eq_some_iff.1 hr).1 (by simp)).trans hr, (hgr.block _ (Array.getElem?_eq_some_iff.1 hk).1 (by simp)).trans hk⟩
    · -- a round
      rintro pre x W ⟨hi, hr, hk⟩ hf
      have hlt : d + 1 < W.heap.size := (Array.getElem?_eq_some_iff.1 hr).1
      have hy := run_yield (P := P) (args := encs x) hr (by rw [hrec]; exact hps x)
      rw [hrec] at hy
      refine ⟨fn, _, assign, body, hy, roundIn_of_wpIn hfn (hassign _ pre x W _ hi hf (by omega) fun a1 W1 hgr hax => ?_)⟩
      have hk0' := hk0 x W W1
      have hr0 := hr
      have hlt0 := hlt
      replace hk := (hgr.block d (by omega) (by simp)).trans hk
      replace hr := (hgr.block (d + 1) hlt (by simp)).trans hr
      replace hi := hIg _ _ _ hi hgr
      replace hf := hfg x _ _ _ hf hgr
      replace hlt : d + 1 < W1.heap.size := (Array.getElem?_eq_some_iff.1 hr).1
      refine ⟨_, run_beginRound hr (by rw [hrec]), ?_⟩
      obtain ⟨o1, ho1⟩ : ∃ o, o = Obj.loop { rec .ready none with state := .busy } := ⟨_, rfl⟩
      rw [← ho1]
      have r1 : (W1.putObj (d + 1) o1).heap[d + 1]? = some o1 := World.putObj_heap_same hlt
      have k1 : (W1.putObj (d + 1) o1).heap[d]? = some (.deferred (some [])) := (World.putObj_heap_other (by omega)).trans hk
      have bk : ∃ q, W1.heap[d + 1]? = some q ∧ q.isCells = false := ⟨_, hr, rfl⟩
      refine wpIn_mono (hbody _ pre x a1 _ (hAx x a1 pre _ _ _ hax (by omega) bk) (hIs _ _ _ _ hi (by omega) bk) (hfact x _ _ _ _ hf (by omega) bk) (by simp; omega)) ?_
      have c1 : o1.isCells = false := by rw [ho1]; rfl
      have fin : ∀ (jump : Option Code) (W3 : World), KeepsFrom w.heap.size (W1.putObj (d + 1) o1) W3 →
          W3.heap[d + 1]? = some o1 ∧ (Instr.endRound (d + 1) jump).run P W3 = .ok (.bool jump.isNone) (W3.putObj (d + 1) (.loop (rec (if jump.isNone then .ready else .done) jump))) ∧
          (W3.putObj (d + 1) (.loop (rec (if jump.isNone then .ready else .done) jump))).heap[d + 1]? = some (.loop (rec (if jump.isNone then .ready else .done) jump)) ∧
          (W3.putObj (d + 1) (.loop (rec (if jump.isNone then .ready else .done) jump))).heap[d]? = some (.deferred (some [])) := fun jump W3 hk3 => by
        have r3 := hk3.same _ _ (by omega) r1 c1
        have e3 := run_endRound (P := P) jump (ho1 ▸ r3)
        rw [hrec] at e3
        rw [hrec]
        exact ⟨r3, e3, World.putObj_heap_same (Array.getElem?_eq_some_iff.1 r3).1, (World.putObj_heap_other (by omega)).trans (hk3.same _ _ (by omega) k1 rfl)⟩
      rintro e a3 W3 hp
      cases e with
      | normal =>
        obtain ⟨hk3, hp3, hi3⟩ := hp
        obtain ⟨r3, he, hl4, hk4⟩ := fin none W3 hk3
        exact ⟨_, _, he, .inl ⟨rfl, ⟨hIs _ _ _ _ hi3 (by omega) ⟨_, r3, c1⟩, hl4, hk4⟩, hk0' _ hgr (hkeep x W1 W3 (d + 1) o1 _ (by omega) bk ⟨_, r3, c1⟩ hp3)⟩⟩
      | ret =>
        obtain ⟨hk3, hi3⟩ := hp
        obtain ⟨r3, he, hl4, hk4⟩ := fin (some .ret) W3 hk3
        exact ⟨_, _, he, .inr ⟨rfl, .ret, hXs _ _ _ _ _ hi3 (by omega) ⟨_, r3, c1⟩, hl4, hk4⟩⟩
      | exit id =>
        obtain ⟨hk3, hi3⟩ := hp
        obtain ⟨r3, he, hl4, hk4⟩ := fin (some (.exit id)) W3 hk3
        exact ⟨_, _, he, .inr ⟨rfl, .exit id, hXs _ _ _ _ _ hi3 (by omega) ⟨_, r3, c1⟩, hl4, hk4⟩⟩
      | goto t =>
        obtain ⟨hk3, hi3⟩ := hp
        obtain ⟨r3, he, hl4, hk4⟩ := fin (some (.goto t)) W3 hk3
        exact ⟨_, _, he, .inr ⟨rfl, .goto t, hXs _ _ _ _ _ hi3 (by omega) ⟨_, r3, c1⟩, hl4, hk4⟩⟩
      | panic ch => exact hp.elim
      | outgrown => exact hp.elim
    · -- behind the iterator
      rintro e W2 ⟨⟨v, rfl⟩, hend⟩
      rcases hend with ⟨xs, hS, hi, hl, hk⟩ | ⟨pre, hS, c, hi, hl, hk⟩
      · have he := run_endLoop (P := P) hl (by rw [hrec]; simp)
        rw [hrec] at he
        have bk : ∃ q, W2.heap[d + 1]? = some q ∧ q.isCells = false := ⟨_, hl, rfl⟩
        exact ⟨none, _, he, hdone d xs _ (by omega) (hends _ _ _ _ hS (by omega) bk) (hIs _ _ _ _ hi (by omega) bk) ((World.putObj_heap_other (by omega)).trans hk)⟩
      · have he := run_endLoop (P := P) hl (by rw [hrec]; simp)
        rw [hrec] at he
        have bk : ∃ q, W2.heap[d + 1]? = some q ∧ q.isCells = false := ⟨_, hl, rfl⟩
        exact ⟨some c, _, he, hstop d c pre _ (by omega) (hstops _ _ _ _ hS (by omega) bk) (hXs _ _ _ _ _ hi (by omega) bk) ((World.putObj_heap_other (by omega)).trans hk)⟩

end
end Go.Proofs.Ytkflofjcjolehaa
