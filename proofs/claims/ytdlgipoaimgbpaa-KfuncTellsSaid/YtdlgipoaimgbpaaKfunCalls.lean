import Derived.Test.YtdlgipoaimgbpaaKfunAll
import Derived.Test.YtdlgipoaimgbpaaBase
/-! kfunc.Of, Named, Name: the callers of the iterator. -/
namespace Go.Proofs.Ytdlgipoaimgbpaa
open Go.RowKit Go.Shelf
attribute [local go_sem] Oper.semAt_some
set_option maxHeartbeats 4000000
set_option maxRecDepth 100000
set_option linter.unusedSimpArgs false
set_option linter.unusedVariables false

/-- That a turn of a block that is no cells leaves all cells. -/
theorem heap_turn {W : World} {l k : Nat} {o : Obj} {c : Array Value} {t : TypeId} {s : Nat × Nat} (h : W.heap[k]? = some (.cells c t s)) (hl : ∃ o', W.heap[l]? = some o' ∧ o'.isCells = false) : (W.putObj l o).heap[k]? = some (.cells c t s) := by
  obtain ⟨o', h1, h2⟩ := hl
  have hne : k ≠ l := fun e => by
    subst e
    rw [h] at h1
    cases h1
    cases h2
  exact (World.putObj_heap_other hne).trans h

theorem Has.turn {W : World} {g l : Nat} {o : Obj} {t : TypeId} {cs : Array Value} (h : Has W g t cs) (hl : ∃ o', W.heap[l]? = some o' ∧ o'.isCells = false) : Has (W.putObj l o) g t cs := heap_turn h hl

theorem Has.grown {W W' : World} {g : Nat} {t : TypeId} {cs : Array Value} (h : Has W g t cs) (hg : W.grownBy W' none) : Has W' g t cs := (hg.block g h.lt (by simp)).trans h

theorem Arg.turn {B : Nat} {a : List Int} {v : Value} {W : World} {l : Nat} {o : Obj} (h : Arg B a v W) (hl : ∃ o', W.heap[l]? = some o' ∧ o'.isCells = false) : Arg B a v (W.putObj l o) := by
  rcases h with ⟨h1, h2⟩ | ⟨b, h1, h2, h3⟩
  · exact .inl ⟨h1, h2⟩
  · exact .inr ⟨b, h1, h2, heap_turn h3 hl⟩

theorem Arg.grown {B : Nat} {a : List Int} {v : Value} {W W' : World} (h : Arg B a v W) (hg : W.grownBy W' none) : Arg B a v W' :=
  h.below ⟨hg.os, hg.tape, hg.output, hg.size, fun k hk => hg.block k hk (by simp)⟩

theorem Arg.weaken {B B' : Nat} {a : List Int} {v : Value} {W : World} (h : Arg B a v W) (hB : B' ≤ B) : Arg B' a v W := by
  rcases h with ⟨h1, h2⟩ | ⟨b, h1, h2, h3⟩
  · exact .inl ⟨h1, h2⟩
  · exact .inr ⟨b, Nat.le_trans hB h1, h2, h3⟩

theorem below_turn {B : Nat} {w W : World} {l : Nat} {o : Obj} (h : Below B w W) (hl : B ≤ l) : Below B w (W.putObj l o) :=
  ⟨h.os, h.tape, h.output, by simpa using h.size, fun k hk => (World.putObj_heap_other (by omega)).trans (h.block k hk)⟩

theorem below_grow {B : Nat} {w W W' : World} (h : Below B w W) (hB : B ≤ W.heap.size) (hg : W.grownBy W' none) : Below B w W' :=
  h.trans ⟨hg.os, hg.tape, hg.output, hg.size, fun k hk => hg.block k (by omega) (by simp)⟩

theorem fact_grows (B : Nat) (x : KX) : Grows (fun pre => KX.fact B pre x) := fun pre W W' h hg => ⟨h.1, h.2.1, h.2.2.grown hg⟩
theorem fact_stays (B N : Nat) (x : KX) : Stays N (fun pre => KX.fact B pre x) := fun pre W l o h _ hl => ⟨h.1, h.2.1, h.2.2.turn hl⟩

theorem keep_turn (N : Nat) (x : KX) (A C : World) (l : Nat) (o o' : Obj) (_ : N ≤ l) (hA : ∃ q, A.heap[l]? = some q ∧ q.isCells = false) (hC : ∃ q, C.heap[l]? = some q ∧ q.isCells = false) (h : x.keep (A.putObj l o) C) : x.keep A (C.putObj l o') :=
  fun k c t hk => heap_turn (h k c t (heap_turn hk hA)) hC

theorem keep_grow (x : KX) (W W1 W3 : World) (hg : W.grownBy W1 none) (h : x.keep W1 W3) : x.keep W W3 :=
  fun k c t hk => h k c t ((hg.block k (Array.getElem?_eq_some_iff.1 hk).1 (by simp)).trans hk)

theorem keep_refl (x : KX) (W : World) : x.keep W W := fun _ _ _ h => h

/-- The function of a number. -/
def kfK (id : Int) : KF := if 1 ≤ id ∧ id ≤ 17 then kfOf (id - 1).toNat else KF.none

theorem kf_name (w : World) (id : Int) : Calls Try.prog 23 #[.int .i32 id] w fun e w' => e = .returned (.string (kfK id).name) ∧ Below w.heap.size w w' := by
  refine (callsIn_wide (n := 4)).1 ?_
  refine callsIn_of_wp_marks Try.func23 rfl trivial ?_ rfl
  simp only [Try.ntmps23, List.size_toArray, List.length_cons, List.length_nil, Nat.reduceAdd, Nat.reduceSub, Array.replicate_succ, Array.replicate_zero, List.push_toArray, List.append_toArray, List.nil_append, List.cons_append]
  gi_wp2
  refine ⟨trivial, ?_⟩
  obtain ⟨w2, hw2⟩ : ∃ w2, w2 = (w.alloc (Obj.cells #[Value.int IntKind.i32 id] 21)).alloc (Obj.cells #[Value.string ⟨#[]⟩] 9) := ⟨_, rfl⟩
  have hI0 : Has w2 w.heap.size 21 #[.int .i32 id] := by rw [hw2]; exact (Has.new w _ _).alloc _
  have hR0 : Has w2 (w.heap.size + 1) 9 #[.string ⟨#[]⟩] := by rw [hw2]; have := Has.new (w.alloc (Obj.cells #[Value.int IntKind.i32 id] 21)) 9 #[.string ⟨#[]⟩]; rwa [World.size_alloc] at this
  have hB0 : Below w.heap.size w w2 := by rw [hw2]; exact ((Below.refl _ w).alloc (Nat.le_refl _) _).alloc (by simp) _
  have hs0 : w2.heap.size = w.heap.size + 2 := by rw [hw2]; simp
  rw [← hw2]
  clear hw2
  refine (callsIn_wide.2 (kf_all w2)).mono ?_
  rintro e w1 ⟨ba, sa, rfl, hba, hsa, hb⟩
  gi_wp2
  have hI1 : Has w1 w.heap.size 21 #[.int .i32 id] := hI0.below hb (by omega)
  have hR1 : Has w1 (w.heap.size + 1) 9 #[.string ⟨#[]⟩] := hR0.below hb (by omega)
  have hB1 : Below w.heap.size w w1 := hB0.trans (hb.mono (by omega))
  have hz1 : w.heap.size + 2 ≤ w1.heap.size := by have := hb.size; omega
  refine wpIn_range_of rfl (by omega) (gf := 64) (lb := #[.pointer (some ⟨ba, 0, none⟩)]) rfl trivial (enters_of Try.func64 (by kernel_rfl) rfl)
    (kf_all1 _ w1 w2.heap.size ba sa hb.size hba hsa) (Below.refl _ _) (fun _ => rfl) (fun x => fact_stays _ _ x) (fun _ _ _ _ h _ _ => h) (fun _ _ _ _ h _ _ => h) (fun x A C l o o' h1 h2 h3 h4 => keep_turn _ x A C l o o' h1 h2 h3 h4)
    (fun pre W => Has W w.heap.size 21 #[.int .i32 id] ∧ Has W (w.heap.size + 1) 9 #[.string ⟨#[]⟩] ∧ Below w.heap.size w W ∧ w1.heap.size ≤ W.heap.size ∧ ∀ j : Nat, j < pre.length → (j : Int) + 1 ≠ id)
    (fun c pre W => c = .ret ∧ 1 ≤ pre.length ∧ pre.length ≤ 17 ∧ id = pre.length ∧ Has W (w.heap.size + 1) 9 #[.string (kfOf (pre.length - 1)).name] ∧ Below w.heap.size w W ∧ w1.heap.size ≤ W.heap.size)
    (fun pre W W' h hg => ⟨h.1.grown hg, h.2.1.grown hg, below_grow h.2.2.1 (by have := h.2.2.2.1; omega) hg, Nat.le_trans h.2.2.2.1 hg.size, h.2.2.2.2⟩)
    (fun pre W l o h hl ho => ⟨h.1.turn ho, h.2.1.turn ho, below_turn h.2.2.1 (by omega), by simpa using h.2.2.2.1, h.2.2.2.2⟩)
    (fun c pre W W' h hg => ⟨h.1, h.2.1, h.2.2.1, h.2.2.2.1, h.2.2.2.2.1.grown hg, below_grow h.2.2.2.2.2.1 (by have := h.2.2.2.2.2.2; omega) hg, Nat.le_trans h.2.2.2.2.2.2 hg.size⟩)
    (fun c pre W l o h hl ho => ⟨h.1, h.2.1, h.2.2.1, h.2.2.2.1, h.2.2.2.2.1.turn ho, below_turn h.2.2.2.2.2.1 (by omega), by simpa using h.2.2.2.2.2.2⟩)
    ⟨hI1, hR1, hB1, Nat.le_refl _, fun j hj => by simp at hj⟩
    (fun x a1 W => ∃ bf, w1.heap.size ≤ bf ∧ Has W bf 70 ((kfOf x.i).cells x.sl).toArray ∧ (∃ A n c, x.sl = .slice A n c) ∧
      a1 = { tmps := #[.int .i32 id, .pointer (some ⟨w.heap.size, 0, none⟩), .pointer (some ⟨w.heap.size + 1, 0, none⟩), .int .i32 (x.i + 1), .pointer (some ⟨bf, 0, none⟩), .func (.func 64) #[] #[.pointer (some ⟨ba, 0, none⟩)], .int .i32 (x.i + 1), .agg ((kfOf x.i).cells x.sl).toArray, undef, undef, undef, undef, undef], defers := [] })
    (fun x a1 pre W l o h hl ho => by obtain ⟨bf, h1, h2, h3, h4⟩ := h; exact ⟨bf, h1, h2.turn ho, h3, h4⟩)
    (fun x => fact_grows _ x) (fun x W W1 W3 hg h => keep_grow x W W1 W3 hg h) ?assign ?body ?done ?stop
  case assign =>
    intro l pre x W K hI hf hsz hK
    obtain ⟨A, m, c, hsl⟩ := Arg.slice hf.2.2
    obtain ⟨xi, xs⟩ := x
    simp only [] at hsl
    subst hsl
    simp only [KX.encs, KF.cells] at hK ⊢
    gi_wp2
    exact hK _ _ (World.grownBy_alloc _ _ _) ⟨W.heap.size, hsz, Has.new _ _ _, ⟨A, m, c, rfl⟩, rfl⟩
  case body =>
    rintro l pre ⟨xi, xs⟩ a1 W ⟨bf, hbf, hF, ⟨A, m, c, hsl⟩, rfl⟩ ⟨hI, hR, hB, hz, hno⟩ hfact hsz
    simp only [] at hsl
    subst hsl
    have hxi : xi = pre.length := hfact.1
    have hx17 : xi < 17 := hfact.2.1
    have c0 : W.cell? ⟨w.heap.size, 0, none⟩ = some (.int .i32 id) := hI.cell 0
    have r0 : W.cell? ⟨w.heap.size + 1, 0, none⟩ = some (.string ⟨#[]⟩) := hR.cell 0
    have r1 := hR.free 0
    have f0 : W.cell? ⟨bf, 0, none⟩ = some (.string (kfOf xi).name) := hF.cell 0
    simp only [KF.cells]
    by_cases he : (xi : Int) + 1 = id
    · have ht : ((xi : Int) + 1 == id) = true := by simp [he]
      gi_wp2
      exact ⟨(KeepsOthers.setCell _ _ _).from _, rfl, by omega, by omega, hR.set 0 _, hB.setCell (p := ⟨w.heap.size + 1, 0, none⟩) (by show w.heap.size ≤ w.heap.size + 1; omega) _, by rw [size_set]; exact hz⟩
    · have ht : ((xi : Int) + 1 == id) = false := by simp [he]
      gi_wp2
      refine ⟨KeepsFrom.refl _ _, keep_refl _ _, hI, hR, hB, hz, fun j hj => ?_⟩
      rcases Nat.lt_or_ge j pre.length with h | h
      · exact hno j h
      · have : j = xi := by (try simp at hj); omega
        subst this
        exact he
  case done =>
    rintro D xs W hD hlen ⟨hI, hR, hB, hz, hno⟩ hK
    have r0 : W.cell? ⟨w.heap.size + 1, 0, none⟩ = some (.string ⟨#[]⟩) := hR.cell 0
    have r1 := hR.free 0
    gi_wp2
    have hK' := (KeepsOthers.setCell W ⟨w.heap.size + 1, 0, none⟩ (Value.string ⟨#[]⟩)).same D _ hK rfl
    have hR' := (hR.set 0 (Value.string ⟨#[]⟩)).turn (o := .deferred none) ⟨_, hK', rfl⟩
    have rr : ((W.setCell ⟨w.heap.size + 1, 0, none⟩ (Value.string ⟨#[]⟩)).putObj D (.deferred none)).cell? ⟨w.heap.size + 1, 0, none⟩ = some (.string ⟨#[]⟩) := hR'.cell 0
    have hB' := below_turn (o := .deferred none) (hB.setCell (p := ⟨w.heap.size + 1, 0, none⟩) (by show w.heap.size ≤ w.heap.size + 1; omega) (Value.string ⟨#[]⟩)) (l := D) (by omega)
    refine ⟨by simp, .inl ⟨_, _, rfl, run_takeDeferred hK', ?_⟩⟩
    refine ⟨_, by simp [results, Try.results23, go_sem, rr]; rfl, ?_, hB'⟩
    rw [kfK, if_neg (fun h => hno (id - 1).toNat (by omega) (by omega))]
    rfl
  case stop =>
    rintro D c pre W hD _ ⟨rfl, h1, h2, h3, hR, hB, hz⟩ hK
    have r0 : W.cell? ⟨w.heap.size + 1, 0, none⟩ = some (.string (kfOf (pre.length - 1)).name) := hR.cell 0
    gi_wp2
    have hR' := hR.turn (o := .deferred none) ⟨_, hK, rfl⟩
    have rr : (W.putObj D (.deferred none)).cell? ⟨w.heap.size + 1, 0, none⟩ = some (.string (kfOf (pre.length - 1)).name) := hR'.cell 0
    have hB' := below_turn (o := .deferred none) hB (l := D) (by omega)
    refine ⟨by simp, .inl ⟨_, _, rfl, run_takeDeferred hK, ?_⟩⟩
    refine ⟨_, by simp [results, Try.results23, go_sem, rr]; rfl, ?_, hB'⟩
    rw [kfK, if_pos (by omega), show (id - 1).toNat = pre.length - 1 by omega]
-- BY PROGRAM

def kNamed (nm : ByteArray) : Int := match kfs.findIdx? (fun k => decide (k.name = nm)) with | some i => (i : Int) + 1 | none => 0

theorem kfs_at {j : Nat} (h : j < 17) : kfs[j]? = some (kfOf j) := by
  unfold kfOf
  rw [List.getD_eq_getElem?_getD]
  have : j < kfs.length := h
  rw [List.getElem?_eq_getElem this]
  rfl

theorem kNamed_none {nm : ByteArray} (h : ∀ j : Nat, j < 17 → (kfOf j).name ≠ nm) : kNamed nm = 0 := by
  unfold kNamed
  rw [List.findIdx?_eq_none_iff.2 (fun x hx => by
    obtain ⟨j, hj⟩ := List.getElem?_of_mem hx
    have hlt : j < 17 := (List.getElem?_eq_some_iff.1 hj).1
    rw [kfs_at hlt] at hj
    cases hj
    exact decide_eq_false (h j hlt))]

theorem kNamed_some {nm : ByteArray} {k : Nat} (hk : k < 17) (h : ∀ j : Nat, j < k → (kfOf j).name ≠ nm) (he : (kfOf k).name = nm) : kNamed nm = k + 1 := by
  unfold kNamed
  have : kfs.findIdx? (fun k => decide (k.name = nm)) = some k := by
    rw [List.findIdx?_eq_some_iff_getElem]
    have hk' : k < kfs.length := hk
    refine ⟨hk', ?_, fun j hj => ?_⟩
    · obtain ⟨p, this⟩ := List.getElem?_eq_some_iff.1 (kfs_at hk)
      exact decide_eq_true (by rw [show kfs[k] = kfOf k from this]; exact he)
    · obtain ⟨p, this⟩ := List.getElem?_eq_some_iff.1 (kfs_at (show j < 17 by omega))
      have h2 : kfs[j].name ≠ nm := by rw [show kfs[j] = kfOf j from this]; exact h j hj
      simpa using h2
  rw [this]

theorem Arg.far {B : Nat} {a : List Int} {v : Value} {W : World} (h : Arg B a v W) {p : Addr} (hp : p.block < B) (u : Value) : Arg B a v (W.setCell p u) := by
  rcases h with ⟨h1, h2⟩ | ⟨b, h1, h2, h3⟩
  · exact .inl ⟨h1, h2⟩
  · exact .inr ⟨b, h1, h2, Has.far (show Has W b _ _ from h3) (by omega) u⟩

theorem toList_ne {a b : ByteArray} (h : a ≠ b) : (a.toList == b.toList) = false := by
  rw [beq_eq_false_iff_ne]
  intro q
  rw [ByteArray.toList_eq, ByteArray.toList_eq] at q
  exact h (ByteArray.ext (Array.toList_inj.1 q))

theorem kf_named (w : World) (nm : ByteArray) : Calls Try.prog 18 #[.string nm] w fun e w' => e = .returned (.tuple #[.int .i32 (kNamed nm), .bool (decide (kNamed nm ≠ 0))]) ∧ Below w.heap.size w w' := by
  refine (callsIn_wide (n := 4)).1 ?_
  refine callsIn_of_wp_marks Try.func18 rfl trivial ?_ rfl
  simp only [Try.ntmps18, List.size_toArray, List.length_cons, List.length_nil, Nat.reduceAdd, Nat.reduceSub, Array.replicate_succ, Array.replicate_zero, List.push_toArray, List.append_toArray, List.nil_append, List.cons_append]
  gi_wp2
  refine ⟨trivial, ?_⟩
  obtain ⟨w2, hw2⟩ : ∃ w2, w2 = ((w.alloc (Obj.cells #[.string nm] 9)).alloc (Obj.cells #[.int .i32 0] 21)).alloc (Obj.cells #[.bool false] 4) := ⟨_, rfl⟩
  have hI0 : Has w2 w.heap.size 9 #[.string nm] := by rw [hw2]; exact ((Has.new w _ _).alloc _).alloc _
  have hR0 : Has w2 (w.heap.size + 1) 21 #[.int .i32 0] := by rw [hw2]; have := Has.new (w.alloc (Obj.cells #[.string nm] 9)) 21 #[.int .i32 0]; rw [World.size_alloc] at this; exact this.alloc _
  have hT0 : Has w2 (w.heap.size + 1 + 1) 4 #[.bool false] := by rw [hw2]; have := Has.new ((w.alloc (Obj.cells #[.string nm] 9)).alloc (Obj.cells #[.int .i32 0] 21)) 4 #[.bool false]; rw [World.size_alloc, World.size_alloc] at this; exact this
  have hB0 : Below w.heap.size w w2 := by rw [hw2]; exact (((Below.refl _ w).alloc (Nat.le_refl _) _).alloc (by simp) _).alloc (by simp; omega) _
  have hs0 : w2.heap.size = w.heap.size + 3 := by rw [hw2]; simp
  rw [← hw2]
  clear hw2
  refine (callsIn_wide.2 (kf_all w2)).mono ?_
  rintro e w1 ⟨ba, sa, rfl, hba, hsa, hb⟩
  gi_wp2
  have hI1 : Has w1 w.heap.size 9 #[.string nm] := hI0.below hb (by omega)
  have hR1 : Has w1 (w.heap.size + 1) 21 #[.int .i32 0] := hR0.below hb (by omega)
  have hT1 : Has w1 (w.heap.size + 1 + 1) 4 #[.bool false] := hT0.below hb (by omega)
  have hB1 : Below w.heap.size w w1 := hB0.trans (hb.mono (by omega))
  have hz1 : w.heap.size + 3 ≤ w1.heap.size := by have := hb.size; omega
  refine wpIn_range_of rfl (by omega) (gf := 64) (lb := #[.pointer (some ⟨ba, 0, none⟩)]) rfl trivial (enters_of Try.func64 (by kernel_rfl) rfl)
    (kf_all1 _ w1 w2.heap.size ba sa hb.size hba hsa) (Below.refl _ _) (fun _ => rfl) (fun x => fact_stays _ _ x) (fun _ _ _ _ h _ _ => h) (fun _ _ _ _ h _ _ => h) (fun x A C l o o' h1 h2 h3 h4 => keep_turn _ x A C l o o' h1 h2 h3 h4)
    (fun pre W => Has W w.heap.size 9 #[.string nm] ∧ Has W (w.heap.size + 1) 21 #[.int .i32 0] ∧ Has W (w.heap.size + 1 + 1) 4 #[.bool false] ∧ Below w.heap.size w W ∧ w1.heap.size ≤ W.heap.size ∧ ∀ j : Nat, j < pre.length → (kfOf j).name ≠ nm)
    (fun c pre W => c = .ret ∧ 1 ≤ pre.length ∧ pre.length ≤ 17 ∧ Has W (w.heap.size + 1 + 1) 4 #[.bool true] ∧ Below w.heap.size w W ∧ w1.heap.size ≤ W.heap.size ∧ (kfOf (pre.length - 1)).name = nm ∧ (∀ j : Nat, j < pre.length - 1 → (kfOf j).name ≠ nm) ∧ Has W (w.heap.size + 1) 21 #[.int .i32 pre.length])
    (fun pre W W' h hg => ⟨h.1.grown hg, h.2.1.grown hg, h.2.2.1.grown hg, below_grow h.2.2.2.1 (by have := h.2.2.2.2.1; omega) hg, Nat.le_trans h.2.2.2.2.1 hg.size, h.2.2.2.2.2⟩)
    (fun pre W l o h hl ho => ⟨h.1.turn ho, h.2.1.turn ho, h.2.2.1.turn ho, below_turn h.2.2.2.1 (by omega), by simpa using h.2.2.2.2.1, h.2.2.2.2.2⟩)
    (fun c pre W W' h hg => ⟨h.1, h.2.1, h.2.2.1, h.2.2.2.1.grown hg, below_grow h.2.2.2.2.1 (by have := h.2.2.2.2.2.1; omega) hg, Nat.le_trans h.2.2.2.2.2.1 hg.size, ⟨h.2.2.2.2.2.2.1, h.2.2.2.2.2.2.2.1, h.2.2.2.2.2.2.2.2.grown hg⟩⟩)
    (fun c pre W l o h hl ho => ⟨h.1, h.2.1, h.2.2.1, h.2.2.2.1.turn ho, below_turn h.2.2.2.2.1 (by omega), by simpa using h.2.2.2.2.2.1, ⟨h.2.2.2.2.2.2.1, h.2.2.2.2.2.2.2.1, h.2.2.2.2.2.2.2.2.turn ho⟩⟩)
    ⟨hI1, hR1, hT1, hB1, Nat.le_refl _, fun j hj => by simp at hj⟩
    (fun x a1 W => ∃ bf, w1.heap.size ≤ bf ∧ Has W bf 70 ((kfOf x.i).cells x.sl).toArray ∧ (∃ A n c, x.sl = .slice A n c) ∧
      a1 = { tmps := #[.string nm, .pointer (some ⟨w.heap.size, 0, none⟩), .pointer (some ⟨w.heap.size + 1, 0, none⟩), .pointer (some ⟨w.heap.size + 1 + 1, 0, none⟩), .int .i32 (x.i + 1), .pointer (some ⟨bf, 0, none⟩), .func (.func 64) #[] #[.pointer (some ⟨ba, 0, none⟩)], .int .i32 (x.i + 1), .agg ((kfOf x.i).cells x.sl).toArray, undef, undef, undef, undef, undef], defers := [] })
    (fun x a1 pre W l o h hl ho => by obtain ⟨bf, h1, h2, h3, h4⟩ := h; exact ⟨bf, h1, h2.turn ho, h3, h4⟩)
    (fun x => fact_grows _ x) (fun x W W1 W3 hg h => keep_grow x W W1 W3 hg h) ?assign ?body ?done ?stop
  case assign =>
    intro l pre x W K hI hf hsz hK
    obtain ⟨A, m, c, hsl⟩ := Arg.slice hf.2.2
    obtain ⟨xi, xs⟩ := x
    simp only [] at hsl
    subst hsl
    simp only [KX.encs, KF.cells] at hK ⊢
    gi_wp2
    exact hK _ _ (World.grownBy_alloc _ _ _) ⟨W.heap.size, hsz, Has.new _ _ _, ⟨A, m, c, rfl⟩, rfl⟩
  case body =>
    rintro l pre ⟨xi, xs⟩ a1 W ⟨bf, hbf, hF, ⟨A, m, c, hsl⟩, rfl⟩ ⟨hI, hR, hT, hB, hz, hno⟩ hfact hsz
    simp only [] at hsl
    subst hsl
    have hxi : xi = pre.length := hfact.1
    have hx17 : xi < 17 := hfact.2.1
    have hxa := hfact.2.2
    clear hfact
    subst hxi
    have c0 : W.cell? ⟨w.heap.size, 0, none⟩ = some (.string nm) := hI.cell 0
    have r0 : W.cell? ⟨w.heap.size + 1, 0, none⟩ = some (.int .i32 0) := hR.cell 0
    have q0 := hR.free 0
    have t0 : W.cell? ⟨w.heap.size + 1 + 1, 0, none⟩ = some (.bool false) := hT.cell 0
    have t1 := hT.free 0
    have f0 : W.cell? ⟨bf, 0, none⟩ = some (.string (kfOf pre.length).name) := hF.cell 0
    have f1 : W.cell? ⟨bf, 1, none⟩ = some (.slice A m c) := hF.cell 1
    have f2 : W.cell? ⟨bf, 2, none⟩ = some (.int .u8 (kfOf pre.length).gives) := hF.cell 2
    have f3 : W.cell? ⟨bf, 3, none⟩ = some (.bool (kfOf pre.length).lk) := hF.cell 3
    have f4 : W.cell? ⟨bf, 4, none⟩ = some (.bool (kfOf pre.length).un) := hF.cell 4
    simp only [KF.cells]
    by_cases he : (kfOf pre.length).name = nm
    · have ht : ((kfOf pre.length).name.toList == nm.toList) = true := by rw [he]; simp
      gi_wp2
      exact ⟨((KeepsOthers.setCell _ _ _).trans (KeepsOthers.setCell _ _ _)).from _, rfl, by omega, (hT.far (p := ⟨w.heap.size + 1, 0, none⟩) (by show w.heap.size + 1 + 1 ≠ w.heap.size + 1; omega) _).set 0 _, (hB.setCell (p := ⟨w.heap.size + 1, 0, none⟩) (by show w.heap.size ≤ w.heap.size + 1; omega) _).setCell (p := ⟨w.heap.size + 1 + 1, 0, none⟩) (by show w.heap.size ≤ w.heap.size + 1 + 1; omega) _, by rw [size_set, size_set]; exact hz, hno, (hR.set 0 _).far (p := ⟨w.heap.size + 1 + 1, 0, none⟩) (by show w.heap.size + 1 ≠ w.heap.size + 1 + 1; omega) _⟩
    · have ht : ((kfOf pre.length).name.toList == nm.toList) = false := toList_ne he
      gi_wp2
      all_goals (try (first | exact absurd (by assumption) he | exact absurd (Eq.symm (by assumption)) he | exact absurd rfl he))
      refine ⟨KeepsFrom.refl _ _, keep_refl _ _, hI, hR, hT, hB, hz, fun j hj => ?_⟩
      rcases Nat.lt_or_ge j pre.length with h | h
      · exact hno j h
      · have : j = pre.length := by (try simp at hj); omega
        subst this
        exact he
  case done =>
    rintro D xs W hD hlen ⟨hI, hR, hT, hB, hz, hno⟩ hK
    have r0 : W.cell? ⟨w.heap.size + 1, 0, none⟩ = some (.int .i32 0) := hR.cell 0
    have q0 := hR.free 0
    have t0 : W.cell? ⟨w.heap.size + 1 + 1, 0, none⟩ = some (.bool false) := hT.cell 0
    have t1 := hT.free 0
    gi_wp2
    have hK' := ((KeepsOthers.setCell W ⟨w.heap.size + 1, 0, none⟩ (Value.int .i32 0)).trans (KeepsOthers.setCell _ ⟨w.heap.size + 1 + 1, 0, none⟩ (Value.bool false))).same D _ hK rfl
    have hR' := ((hR.set 0 (Value.int .i32 0)).far (p := ⟨w.heap.size + 1 + 1, 0, none⟩) (by show w.heap.size + 1 ≠ w.heap.size + 1 + 1; omega) (.bool false)).turn (o := .deferred none) ⟨_, hK', rfl⟩
    have hT' := ((hT.far (p := ⟨w.heap.size + 1, 0, none⟩) (by show w.heap.size + 1 + 1 ≠ w.heap.size + 1; omega) (Value.int .i32 0)).set 0 (.bool false)).turn (o := .deferred none) ⟨_, hK', rfl⟩
    have rr := hR'.cell 0
    have rt := hT'.cell 0
    have hB' := below_turn (o := .deferred none) ((hB.setCell (p := ⟨w.heap.size + 1, 0, none⟩) (by show w.heap.size ≤ w.heap.size + 1; omega) (Value.int .i32 0)).setCell (p := ⟨w.heap.size + 1 + 1, 0, none⟩) (by show w.heap.size ≤ w.heap.size + 1 + 1; omega) (.bool false)) (l := D) (by omega)
    refine ⟨by simp, .inl ⟨_, _, rfl, run_takeDeferred hK', ?_⟩⟩
    refine ⟨_, by simp [results, Try.results18, go_sem, rr, rt]; rfl, ?_, hB'⟩
    rw [kNamed_none (fun j hj => hno j (by omega))]
    rfl
  case stop =>
    rintro D c pre W hD _ ⟨rfl, h1, h2, hT, hB, hz, hnm, hno, hR⟩ hK
    gi_wp2
    have hR' := hR.turn (o := .deferred none) ⟨_, hK, rfl⟩
    have hT' := hT.turn (o := .deferred none) ⟨_, hK, rfl⟩
    have rr := hR'.cell 0
    have rt := hT'.cell 0
    have hB' := below_turn (o := .deferred none) hB (l := D) (by omega)
    refine ⟨by simp, .inl ⟨_, _, rfl, run_takeDeferred hK, ?_⟩⟩
    refine ⟨_, by simp [results, Try.results18, go_sem, rr, rt]; rfl, ?_, hB'⟩
    rw [kNamed_some (k := pre.length - 1) (by omega) hno hnm, show ((pre.length - 1 : Nat) : Int) + 1 = pre.length by omega, decide_eq_true (show (pre.length : Int) ≠ 0 by omega)]

theorem kf_of (w : World) (id : Int) : Calls Try.prog 16 #[.int .i32 id] w fun e w' => ∃ v0, e = .returned (.tuple #[.agg #[v0, .int .u8 (kfK id).gives, .bool (kfK id).lk, .bool (kfK id).un], .bool (decide (1 ≤ id ∧ id ≤ 17))]) ∧ Arg w.heap.size (kfK id).args v0 w' ∧ Below w.heap.size w w' := by
  refine (callsIn_wide (n := 4)).1 ?_
  refine callsIn_of_wp_marks Try.func16 rfl trivial ?_ rfl
  simp only [Try.ntmps16, List.size_toArray, List.length_cons, List.length_nil, Nat.reduceAdd, Nat.reduceSub, Array.replicate_succ, Array.replicate_zero, List.push_toArray, List.append_toArray, List.nil_append, List.cons_append]
  gi_wp2
  refine ⟨trivial, ?_⟩
  obtain ⟨w2, hw2⟩ : ∃ w2, w2 = ((w.alloc (Obj.cells #[.int .i32 id] 21)).alloc (Obj.cells #[.slice none 0 0, .int .u8 0, .bool false, .bool false] 37)).alloc (Obj.cells #[.bool false] 4) := ⟨_, rfl⟩
  have hI0 : Has w2 w.heap.size 21 #[.int .i32 id] := by rw [hw2]; exact ((Has.new w _ _).alloc _).alloc _
  have hR0 : Has w2 (w.heap.size + 1) 37 #[.slice none 0 0, .int .u8 0, .bool false, .bool false] := by rw [hw2]; have := Has.new (w.alloc (Obj.cells #[.int .i32 id] 21)) 37 #[.slice none 0 0, .int .u8 0, .bool false, .bool false]; rw [World.size_alloc] at this; exact this.alloc _
  have hT0 : Has w2 (w.heap.size + 1 + 1) 4 #[.bool false] := by rw [hw2]; have := Has.new ((w.alloc (Obj.cells #[.int .i32 id] 21)).alloc (Obj.cells #[.slice none 0 0, .int .u8 0, .bool false, .bool false] 37)) 4 #[.bool false]; rw [World.size_alloc, World.size_alloc] at this; exact this
  have hB0 : Below w.heap.size w w2 := by rw [hw2]; exact (((Below.refl _ w).alloc (Nat.le_refl _) _).alloc (by simp) _).alloc (by simp; omega) _
  have hs0 : w2.heap.size = w.heap.size + 3 := by rw [hw2]; simp
  rw [← hw2]
  clear hw2
  refine (callsIn_wide.2 (kf_all w2)).mono ?_
  rintro e w1 ⟨ba, sa, rfl, hba, hsa, hb⟩
  gi_wp2
  have hI1 : Has w1 w.heap.size 21 #[.int .i32 id] := hI0.below hb (by omega)
  have hR1 : Has w1 (w.heap.size + 1) 37 #[.slice none 0 0, .int .u8 0, .bool false, .bool false] := hR0.below hb (by omega)
  have hT1 : Has w1 (w.heap.size + 1 + 1) 4 #[.bool false] := hT0.below hb (by omega)
  have hB1 : Below w.heap.size w w1 := hB0.trans (hb.mono (by omega))
  have hz1 : w.heap.size + 3 ≤ w1.heap.size := by have := hb.size; omega
  refine wpIn_range_of rfl (by omega) (gf := 64) (lb := #[.pointer (some ⟨ba, 0, none⟩)]) rfl trivial (enters_of Try.func64 (by kernel_rfl) rfl)
    (kf_all1 _ w1 w2.heap.size ba sa hb.size hba hsa) (Below.refl _ _) (fun _ => rfl) (fun x => fact_stays _ _ x) (fun _ _ _ _ h _ _ => h) (fun _ _ _ _ h _ _ => h) (fun x A C l o o' h1 h2 h3 h4 => keep_turn _ x A C l o o' h1 h2 h3 h4)
    (fun pre W => Has W w.heap.size 21 #[.int .i32 id] ∧ Has W (w.heap.size + 1) 37 #[.slice none 0 0, .int .u8 0, .bool false, .bool false] ∧ Has W (w.heap.size + 1 + 1) 4 #[.bool false] ∧ Below w.heap.size w W ∧ w1.heap.size ≤ W.heap.size ∧ ∀ j : Nat, j < pre.length → (j : Int) + 1 ≠ id)
    (fun c pre W => c = .ret ∧ 1 ≤ pre.length ∧ pre.length ≤ 17 ∧ Has W (w.heap.size + 1 + 1) 4 #[.bool true] ∧ Below w.heap.size w W ∧ w1.heap.size ≤ W.heap.size ∧ id = pre.length ∧ (∃ A m c, Arg w.heap.size (kfOf (pre.length - 1)).args (.slice A m c) W ∧ Has W (w.heap.size + 1) 37 #[.slice A m c, .int .u8 (kfOf (pre.length - 1)).gives, .bool (kfOf (pre.length - 1)).lk, .bool (kfOf (pre.length - 1)).un]))
    (fun pre W W' h hg => ⟨h.1.grown hg, h.2.1.grown hg, h.2.2.1.grown hg, below_grow h.2.2.2.1 (by have := h.2.2.2.2.1; omega) hg, Nat.le_trans h.2.2.2.2.1 hg.size, h.2.2.2.2.2⟩)
    (fun pre W l o h hl ho => ⟨h.1.turn ho, h.2.1.turn ho, h.2.2.1.turn ho, below_turn h.2.2.2.1 (by omega), by simpa using h.2.2.2.2.1, h.2.2.2.2.2⟩)
    (fun c pre W W' h hg => ⟨h.1, h.2.1, h.2.2.1, h.2.2.2.1.grown hg, below_grow h.2.2.2.2.1 (by have := h.2.2.2.2.2.1; omega) hg, Nat.le_trans h.2.2.2.2.2.1 hg.size, ⟨h.2.2.2.2.2.2.1, by obtain ⟨A, m, c, h1, h2⟩ := h.2.2.2.2.2.2.2; exact ⟨A, m, c, h1.grown hg, h2.grown hg⟩⟩⟩)
    (fun c pre W l o h hl ho => ⟨h.1, h.2.1, h.2.2.1, h.2.2.2.1.turn ho, below_turn h.2.2.2.2.1 (by omega), by simpa using h.2.2.2.2.2.1, ⟨h.2.2.2.2.2.2.1, by obtain ⟨A, m, c, h1, h2⟩ := h.2.2.2.2.2.2.2; exact ⟨A, m, c, h1.turn ho, h2.turn ho⟩⟩⟩)
    ⟨hI1, hR1, hT1, hB1, Nat.le_refl _, fun j hj => by simp at hj⟩
    (fun x a1 W => ∃ bf, w1.heap.size ≤ bf ∧ Has W bf 70 ((kfOf x.i).cells x.sl).toArray ∧ (∃ A n c, x.sl = .slice A n c) ∧
      a1 = { tmps := #[.int .i32 id, .pointer (some ⟨w.heap.size, 0, none⟩), .pointer (some ⟨w.heap.size + 1, 0, none⟩), .pointer (some ⟨w.heap.size + 1 + 1, 0, none⟩), .int .i32 (x.i + 1), .pointer (some ⟨bf, 0, none⟩), .func (.func 64) #[] #[.pointer (some ⟨ba, 0, none⟩)], .int .i32 (x.i + 1), .agg ((kfOf x.i).cells x.sl).toArray, undef, undef, undef, undef, undef, undef], defers := [] })
    (fun x a1 pre W l o h hl ho => by obtain ⟨bf, h1, h2, h3, h4⟩ := h; exact ⟨bf, h1, h2.turn ho, h3, h4⟩)
    (fun x => fact_grows _ x) (fun x W W1 W3 hg h => keep_grow x W W1 W3 hg h) ?assign ?body ?done ?stop
  case assign =>
    intro l pre x W K hI hf hsz hK
    obtain ⟨A, m, c, hsl⟩ := Arg.slice hf.2.2
    obtain ⟨xi, xs⟩ := x
    simp only [] at hsl
    subst hsl
    simp only [KX.encs, KF.cells] at hK ⊢
    gi_wp2
    exact hK _ _ (World.grownBy_alloc _ _ _) ⟨W.heap.size, hsz, Has.new _ _ _, ⟨A, m, c, rfl⟩, rfl⟩
  case body =>
    rintro l pre ⟨xi, xs⟩ a1 W ⟨bf, hbf, hF, ⟨A, m, c, hsl⟩, rfl⟩ ⟨hI, hR, hT, hB, hz, hno⟩ hfact hsz
    simp only [] at hsl
    subst hsl
    have hxi : xi = pre.length := hfact.1
    have hx17 : xi < 17 := hfact.2.1
    have hxa := hfact.2.2
    clear hfact
    subst hxi
    have c0 : W.cell? ⟨w.heap.size, 0, none⟩ = some (.int .i32 id) := hI.cell 0
    have r0 : W.cell? ⟨w.heap.size + 1, 0, none⟩ = some (.slice none 0 0) := hR.cell 0
    have q0 := hR.free 0
    have r1 : W.cell? ⟨w.heap.size + 1, 1, none⟩ = some (.int .u8 0) := hR.cell 1
    have q1 := hR.free 1
    have r2 : W.cell? ⟨w.heap.size + 1, 2, none⟩ = some (.bool false) := hR.cell 2
    have q2 := hR.free 2
    have r3 : W.cell? ⟨w.heap.size + 1, 3, none⟩ = some (.bool false) := hR.cell 3
    have q3 := hR.free 3
    have t0 : W.cell? ⟨w.heap.size + 1 + 1, 0, none⟩ = some (.bool false) := hT.cell 0
    have t1 := hT.free 0
    have f0 : W.cell? ⟨bf, 0, none⟩ = some (.string (kfOf pre.length).name) := hF.cell 0
    have f1 : W.cell? ⟨bf, 1, none⟩ = some (.slice A m c) := hF.cell 1
    have f2 : W.cell? ⟨bf, 2, none⟩ = some (.int .u8 (kfOf pre.length).gives) := hF.cell 2
    have f3 : W.cell? ⟨bf, 3, none⟩ = some (.bool (kfOf pre.length).lk) := hF.cell 3
    have f4 : W.cell? ⟨bf, 4, none⟩ = some (.bool (kfOf pre.length).un) := hF.cell 4
    simp only [KF.cells]
    by_cases he : (pre.length : Int) + 1 = id
    · have ht : ((pre.length : Int) + 1 == id) = true := by simp [he]
      gi_wp2
      exact ⟨(((((KeepsOthers.setCell W ⟨w.heap.size + 1, 0, none⟩ (Value.slice A m c)).trans (KeepsOthers.setCell _ ⟨w.heap.size + 1, 1, none⟩ (Value.int .u8 (kfOf pre.length).gives))).trans (KeepsOthers.setCell _ ⟨w.heap.size + 1, 2, none⟩ (Value.bool (kfOf pre.length).lk))).trans (KeepsOthers.setCell _ ⟨w.heap.size + 1, 3, none⟩ (Value.bool (kfOf pre.length).un))).trans (KeepsOthers.setCell _ ⟨w.heap.size + 1 + 1, 0, none⟩ (Value.bool true))).from _, rfl, by omega, (((((hT.far (p := ⟨w.heap.size + 1, 0, none⟩) (by show w.heap.size + 1 + 1 ≠ w.heap.size + 1; omega) (Value.slice A m c)).far (p := ⟨w.heap.size + 1, 1, none⟩) (by show w.heap.size + 1 + 1 ≠ w.heap.size + 1; omega) (Value.int .u8 (kfOf pre.length).gives)).far (p := ⟨w.heap.size + 1, 2, none⟩) (by show w.heap.size + 1 + 1 ≠ w.heap.size + 1; omega) (Value.bool (kfOf pre.length).lk)).far (p := ⟨w.heap.size + 1, 3, none⟩) (by show w.heap.size + 1 + 1 ≠ w.heap.size + 1; omega) (Value.bool (kfOf pre.length).un)).set 0 (Value.bool true)), (((((hB.setCell (p := ⟨w.heap.size + 1, 0, none⟩) (by show w.heap.size ≤ w.heap.size + 1; omega) (Value.slice A m c)).setCell (p := ⟨w.heap.size + 1, 1, none⟩) (by show w.heap.size ≤ w.heap.size + 1; omega) (Value.int .u8 (kfOf pre.length).gives)).setCell (p := ⟨w.heap.size + 1, 2, none⟩) (by show w.heap.size ≤ w.heap.size + 1; omega) (Value.bool (kfOf pre.length).lk)).setCell (p := ⟨w.heap.size + 1, 3, none⟩) (by show w.heap.size ≤ w.heap.size + 1; omega) (Value.bool (kfOf pre.length).un)).setCell (p := ⟨w.heap.size + 1 + 1, 0, none⟩) (by show w.heap.size ≤ w.heap.size + 1 + 1; omega) (Value.bool true)), by rw [size_set, size_set, size_set, size_set, size_set]; exact hz, A, m, c, (((((hxa.far (p := ⟨w.heap.size + 1, 0, none⟩) (by show w.heap.size + 1 < _; omega) (Value.slice A m c)).far (p := ⟨w.heap.size + 1, 1, none⟩) (by show w.heap.size + 1 < _; omega) (Value.int .u8 (kfOf pre.length).gives)).far (p := ⟨w.heap.size + 1, 2, none⟩) (by show w.heap.size + 1 < _; omega) (Value.bool (kfOf pre.length).lk)).far (p := ⟨w.heap.size + 1, 3, none⟩) (by show w.heap.size + 1 < _; omega) (Value.bool (kfOf pre.length).un)).far (p := ⟨w.heap.size + 1 + 1, 0, none⟩) (by show w.heap.size + 1 + 1 < _; omega) (Value.bool true)).weaken (by omega), (((((hR.set 0 (Value.slice A m c)).set 1 (Value.int .u8 (kfOf pre.length).gives)).set 2 (Value.bool (kfOf pre.length).lk)).set 3 (Value.bool (kfOf pre.length).un)).far (p := ⟨w.heap.size + 1 + 1, 0, none⟩) (by show w.heap.size + 1 ≠ w.heap.size + 1 + 1; omega) (Value.bool true))⟩
    · have ht : ((pre.length : Int) + 1 == id) = false := by simp [he]
      gi_wp2
      all_goals (try (first | exact absurd (by assumption) he | exact absurd (Eq.symm (by assumption)) he | exact absurd rfl he))
      refine ⟨KeepsFrom.refl _ _, keep_refl _ _, hI, hR, hT, hB, hz, fun j hj => ?_⟩
      rcases Nat.lt_or_ge j pre.length with h | h
      · exact hno j h
      · have : j = pre.length := by (try simp at hj); omega
        subst this
        exact he
  case done =>
    rintro D xs W hD hlen ⟨hI, hR, hT, hB, hz, hno⟩ hK
    have r0 : W.cell? ⟨w.heap.size + 1, 0, none⟩ = some (.slice none 0 0) := hR.cell 0
    have q0 := hR.free 0
    have r1 : W.cell? ⟨w.heap.size + 1, 1, none⟩ = some (.int .u8 0) := hR.cell 1
    have q1 := hR.free 1
    have r2 : W.cell? ⟨w.heap.size + 1, 2, none⟩ = some (.bool false) := hR.cell 2
    have q2 := hR.free 2
    have r3 : W.cell? ⟨w.heap.size + 1, 3, none⟩ = some (.bool false) := hR.cell 3
    have q3 := hR.free 3
    have t0 : W.cell? ⟨w.heap.size + 1 + 1, 0, none⟩ = some (.bool false) := hT.cell 0
    have t1 := hT.free 0
    gi_wp2
    have hK' := (((((KeepsOthers.setCell W ⟨w.heap.size + 1, 0, none⟩ (Value.slice none 0 0)).trans (KeepsOthers.setCell _ ⟨w.heap.size + 1, 1, none⟩ (Value.int .u8 0))).trans (KeepsOthers.setCell _ ⟨w.heap.size + 1, 2, none⟩ (Value.bool false))).trans (KeepsOthers.setCell _ ⟨w.heap.size + 1, 3, none⟩ (Value.bool false))).trans (KeepsOthers.setCell _ ⟨w.heap.size + 1 + 1, 0, none⟩ (Value.bool false))).same D _ hK rfl
    have hR' := (((((hR.set 0 (Value.slice none 0 0)).set 1 (Value.int .u8 0)).set 2 (Value.bool false)).set 3 (Value.bool false)).far (p := ⟨w.heap.size + 1 + 1, 0, none⟩) (by show w.heap.size + 1 ≠ w.heap.size + 1 + 1; omega) (Value.bool false)).turn (o := .deferred none) ⟨_, hK', rfl⟩
    have hT' := (((((hT.far (p := ⟨w.heap.size + 1, 0, none⟩) (by show w.heap.size + 1 + 1 ≠ w.heap.size + 1; omega) (Value.slice none 0 0)).far (p := ⟨w.heap.size + 1, 1, none⟩) (by show w.heap.size + 1 + 1 ≠ w.heap.size + 1; omega) (Value.int .u8 0)).far (p := ⟨w.heap.size + 1, 2, none⟩) (by show w.heap.size + 1 + 1 ≠ w.heap.size + 1; omega) (Value.bool false)).far (p := ⟨w.heap.size + 1, 3, none⟩) (by show w.heap.size + 1 + 1 ≠ w.heap.size + 1; omega) (Value.bool false)).set 0 (Value.bool false)).turn (o := .deferred none) ⟨_, hK', rfl⟩
    have hB' := below_turn (o := .deferred none) (((((hB.setCell (p := ⟨w.heap.size + 1, 0, none⟩) (by show w.heap.size ≤ w.heap.size + 1; omega) (Value.slice none 0 0)).setCell (p := ⟨w.heap.size + 1, 1, none⟩) (by show w.heap.size ≤ w.heap.size + 1; omega) (Value.int .u8 0)).setCell (p := ⟨w.heap.size + 1, 2, none⟩) (by show w.heap.size ≤ w.heap.size + 1; omega) (Value.bool false)).setCell (p := ⟨w.heap.size + 1, 3, none⟩) (by show w.heap.size ≤ w.heap.size + 1; omega) (Value.bool false)).setCell (p := ⟨w.heap.size + 1 + 1, 0, none⟩) (by show w.heap.size ≤ w.heap.size + 1 + 1; omega) (Value.bool false)) (l := D) (by omega)
    have rr0 := hR'.cell 0
    have rr1 := hR'.cell 1
    have rr2 := hR'.cell 2
    have rr3 := hR'.cell 3
    have rt := hT'.cell 0
    have hno' : ¬ (1 ≤ id ∧ id ≤ 17) := fun h => hno (id - 1).toNat (by omega) (by omega)
    refine ⟨by simp, .inl ⟨_, _, rfl, run_takeDeferred hK', ?_⟩⟩
    refine ⟨_, by simp [results, Try.results16, go_sem, rr0, rr1, rr2, rr3, rt]; rfl, .slice none 0 0, ?_, ?_, hB'⟩
    · rw [kfK, if_neg hno', decide_eq_false hno']
      rfl
    · rw [kfK, if_neg hno']
      exact .inl ⟨rfl, rfl⟩
  case stop =>
    rintro D c pre W hD _ ⟨rfl, h1, h2, hT, hB, hz, hid, A, m, c, hA, hR⟩ hK
    gi_wp2
    have hR' := hR.turn (o := .deferred none) ⟨_, hK, rfl⟩
    have hT' := hT.turn (o := .deferred none) ⟨_, hK, rfl⟩
    have rr0 := hR'.cell 0
    have rr1 := hR'.cell 1
    have rr2 := hR'.cell 2
    have rr3 := hR'.cell 3
    have rt := hT'.cell 0
    have hB' := below_turn (o := .deferred none) hB (l := D) (by omega)
    have hA' := hA.turn (o := .deferred none) ⟨_, hK, rfl⟩
    have hin : 1 ≤ id ∧ id ≤ 17 := by omega
    have hk : kfK id = kfOf (pre.length - 1) := by rw [kfK, if_pos hin, show (id - 1).toNat = pre.length - 1 by omega]
    refine ⟨by simp, .inl ⟨_, _, rfl, run_takeDeferred hK, ?_⟩⟩
    refine ⟨_, by simp [results, Try.results16, go_sem, rr0, rr1, rr2, rr3, rt]; rfl, .slice A m c, ?_, ?_, hB'⟩
    · rw [hk, decide_eq_true hin]
    · rw [hk]
      exact hA'

end Go.Proofs.Ytdlgipoaimgbpaa
