import Derived.Test.YtagminbfboncoaaListEach
import Derived.RangeFuncBox
import Derived.Maps.AppendAt
/-! Package list: All. -/
namespace Go.Proofs.Ytagminbfboncoaa
open Go.RowKit Go.Maps Go.Shelf
attribute [local go_sem] Oper.semAt_some
set_option maxHeartbeats 2000000
set_option maxRecDepth 100000
set_option linter.unusedSimpArgs false
set_option linter.unusedVariables false

theorem heap_turn {W : World} {l k : Nat} {o : Obj} {c : Array Value} {t : TypeId} {s : Nat × Nat} (h : W.heap[k]? = some (.cells c t s)) (hl : ∃ o', W.heap[l]? = some o' ∧ o'.isCells = false) : (W.putObj l o).heap[k]? = some (.cells c t s) := by
  obtain ⟨o', h1, h2⟩ := hl
  have hne : k ≠ l := fun e => by
    subst e
    rw [h] at h1
    cases h1
    cases h2
  exact (World.putObj_heap_other hne).trans h

theorem Has.turn {W : World} {g l : Nat} {o : Obj} {t : TypeId} {cs : Array Value} (h : Has W g t cs) (hl : ∃ o', W.heap[l]? = some o' ∧ o'.isCells = false) : Has (W.putObj l o) g t cs := heap_turn h hl

theorem Has.grown {W W' : World} {g : Nat} {t : TypeId} {cs : Array Value} (h : Has W g t cs) (hg : W.grownBy W' none) : Has W' g t cs := (hg.block g h.lt (by simp)).trans h

theorem below_turn {B : Nat} {w W : World} {l : Nat} {o : Obj} (h : Below B w W) (hl : B ≤ l) : Below B w (W.putObj l o) :=
  ⟨h.os, h.tape, h.output, by simpa using h.size, fun k hk => (World.putObj_heap_other (by omega)).trans (h.block k hk)⟩

theorem below_grow {B : Nat} {w W W' : World} (h : Below B w W) (hB : B ≤ W.heap.size) (hg : W.grownBy W' none) : Below B w W' :=
  h.trans ⟨hg.os, hg.tape, hg.output, hg.size, fun k hk => hg.block k (by omega) (by simp)⟩

/-- A row that is owned stays so where its block does. -/
theorem owns_kept {w W : World} {base : Nat} {e : TypeId} {size n : Nat} {v : Value} {xs : List Value} (h : w.ownsRow base e size v n xs) (hk : ∀ g c, Has w g e c → Has W g e c) : W.ownsRow base e size v n xs := by
  obtain ⟨h1, h2⟩ := h
  refine ⟨h1, ?_⟩
  rcases h2 with h2 | ⟨g, cap, cur, h3, h4, h5, h6⟩
  · exact .inl h2
  · exact .inr ⟨g, cap, cur, h3, h4, hk g cur h5, h6⟩

/-- The block of a row that is owned. -/
theorem owns_block {w : World} {base : Nat} {e : TypeId} {size n : Nat} {v : Value} {xs : List Value} (h : w.ownsRow base e size v n xs) {k : Nat} (hk : v.ownBlock = some k) : ∃ c, Has w k e c := by
  rcases h.2 with ⟨rfl, _⟩ | ⟨g, cap, cur, rfl, _, h5, _⟩
  · simp [Value.ownBlock] at hk
  · simp [Value.ownBlock] at hk
    subst hk
    exact ⟨cur, h5⟩

theorem owns_base {w : World} {base : Nat} {e : TypeId} {size n : Nat} {v : Value} {xs : List Value} (h : w.ownsRow base e size v n xs) {k : Nat} (hk : v.ownBlock = some k) : base ≤ k := by
  rcases h.2 with ⟨rfl, _⟩ | ⟨g, cap, cur, rfl, h5, _⟩
  · simp [Value.ownBlock] at hk
  · simp [Value.ownBlock] at hk
    omega

def rowCells (hs : List (Int × Int)) : List Value := hs.flatMap fun x => [.int .i64 x.1, .int .u64 x.2]

theorem list_each (w : World) (p : Option Addr) : Calls Try.prog 25 #[.pointer p] w fun e w' =>
    ∃ bc, e = .returned (.func (.func 28) #[] #[.pointer (some ⟨bc, 0, none⟩)]) ∧ w.heap.size ≤ bc ∧ Has w' bc 24 #[.pointer p] ∧ Below w.heap.size w w' := by
  have hmf : ∀ (fn : Fn) (first cap : Array Value) (w : World), (Instr.makeFunc fn first cap).run Try.prog w = .ok (.func fn first cap) w := fun _ _ _ _ => rfl
  go_enter Try.func25, Try.ntmps25
  go_wp2_with fail
  go_returns
  exact ⟨_, rfl, Nat.le_refl _, Has.new _ _ _, by go_grown⟩

theorem info_h : (Try.prog.info? 29).map (fun i => (i.zero, i.size, i.bytes)) = some (some (.agg #[.int .i64 0, .int .u64 0]), 2, 16) := by kernel_rfl

theorem keep_links_turn (N : Nat) (x : Int × Int) (A C : World) (l : Nat) (o o' : Obj) (_ : N ≤ l) (hA : ∃ q, A.heap[l]? = some q ∧ q.isCells = false) (hC : ∃ q, C.heap[l]? = some q ∧ q.isCells = false) (h : KeepLinks (A.putObj l o) C) : KeepLinks A (C.putObj l o') :=
  fun k cs hk => (h k cs (hk.turn hA)).turn hC

theorem cells2_new (W : World) (s g : Int) : ∀ j u, [Value.int .i64 s, Value.int .u64 g][j]? = some u → (W.alloc (.cells #[.int .i64 s, .int .u64 g] 29)).cell? ((⟨W.heap.size, 0, none⟩ : Addr).add j) = some u := by
  have hn := Has.new W 29 #[.int .i64 s, .int .u64 g]
  intro j u hj
  match j, hj with
  | 0, hj => simp at hj; subst hj; exact hn.cell 0
  | 1, hj => simp at hj; subst hj; exact hn.cell 1

theorem list_all (N : Nat) (w : World) (b mb : Nat) (hs : List (Int × Int)) (h : ListIs N w b mb hs) (hsm : hs.length ≤ 100000) :
    Calls Try.prog 16 #[.pointer (some ⟨b, 0, none⟩)] w fun e w' => ∃ v, e = .returned v ∧ w'.ownsRow w.heap.size 29 2 v hs.length (rowCells hs) ∧ Below w.heap.size w w' := by
  obtain ⟨ks, m, hNb, hNm, hb0, hc, _⟩ := h
  obtain ⟨i0, hi, hz0, hz1, hz2⟩ := info_parts info_h
  refine (callsIn_wide (n := 4)).1 ?_
  refine callsIn_of_wp_marks Try.func16 rfl trivial ?_ rfl
  simp only [Try.ntmps16, List.size_toArray, List.length_cons, List.length_nil, Nat.reduceAdd, Nat.reduceSub, Array.replicate_succ, Array.replicate_zero, List.push_toArray, List.append_toArray, List.nil_append, List.cons_append]
  gi_wp2
  refine ⟨trivial, ?_⟩
  obtain ⟨w2, hw2⟩ : ∃ w2, w2 = w.alloc (Obj.cells #[.slice none 0 0] 22) := ⟨_, rfl⟩
  have hO0 : Has w2 w.heap.size 22 #[.slice none 0 0] := by rw [hw2]; exact Has.new w _ _
  have hB0 : Below w.heap.size w w2 := by rw [hw2]; exact (Below.refl _ w).alloc (Nat.le_refl _) _
  have hs0 : w2.heap.size = w.heap.size + 1 := by rw [hw2]; simp
  rw [← hw2]
  clear hw2
  refine (callsIn_wide.2 (list_each w2 _)).mono ?_
  rintro e w1 ⟨bc, rfl, hbc, hcap, hb⟩
  gi_wp2
  have hO1 := hO0.below hb (by omega)
  have hB1 : Below w.heap.size w w1 := hB0.trans (hb.mono (by omega))
  have hz1' : w.heap.size + 1 ≤ w1.heap.size := by have := hb.size; omega
  have hbW := hb0.below hB1 hb0.lt
  have hlk : LinksOk hs ks w1 := fun i x k h1 h2 => ((hc.2.2 i x k h1 h2).2).below hB1 (hc.2.2 i x k h1 h2).2.lt
  refine wpIn_range_of rfl (by omega) (gf := 28) (lb := #[.pointer (some ⟨bc, 0, none⟩)]) rfl trivial (enters_of Try.func28 (by kernel_rfl) rfl)
    (list_each1 _ w1 bc b mb _ hs ks hc.1 hc.2.1 hcap hbW hlk) (Below.refl _ _) (fun _ => rfl) (fun x => fun _ _ _ _ h _ _ => h) (fun _ _ _ _ h _ _ => h) (fun _ _ _ _ h _ _ => h) (fun x A C l o o' h1 h2 h3 h4 => keep_links_turn _ x A C l o o' h1 h2 h3 h4)
    (fun pre W => (∃ v, Has W w.heap.size 22 #[v] ∧ W.ownsRow w.heap.size 29 2 v pre.length (rowCells pre)) ∧ Below w.heap.size w W ∧ w1.heap.size ≤ W.heap.size)
    (fun _ _ _ => False)
    (fun pre W W' h hg => ⟨by obtain ⟨v, h1, h2⟩ := h.1; exact ⟨v, h1.grown hg, owns_kept h2 (fun g c hh => hh.grown hg)⟩, below_grow h.2.1 (by have := h.2.2; omega) hg, Nat.le_trans h.2.2 hg.size⟩)
    (fun pre W l o h hl ho => ⟨by obtain ⟨v, h1, h2⟩ := h.1; exact ⟨v, h1.turn ho, owns_kept h2 (fun g c hh => hh.turn ho)⟩, below_turn h.2.1 (by omega), by simpa using h.2.2⟩)
    (fun _ _ _ _ h _ => h) (fun _ _ _ _ _ h _ _ => h)
    ⟨⟨_, hO1, World.ownsRow_nil _ _ _ _⟩, hB1, Nat.le_refl _⟩
    (fun x a1 W => ∃ bf, w1.heap.size ≤ bf ∧ Has W bf 29 #[.int .i64 x.1, .int .u64 x.2] ∧
      a1 = { tmps := #[.pointer (some ⟨b, 0, none⟩), undef, .pointer (some ⟨w.heap.size, 0, none⟩), .pointer (some ⟨bf, 0, none⟩), .pointer (some ⟨b, 0, none⟩), .func (.func 28) #[] #[.pointer (some ⟨bc, 0, none⟩)], hv x, undef, undef, undef, undef, undef], defers := [] })
    (fun x a1 pre W l o h hl ho => by obtain ⟨bf, h1, h2, h3⟩ := h; exact ⟨bf, h1, h2.turn ho, h3⟩)
    (fun x => fun _ _ _ h _ => h) (fun x W W1 W3 hg h => fun k cs hk => h k cs (hk.grown hg)) ?assign ?body ?done ?stop
  case assign =>
    rintro l pre ⟨s, g⟩ W K hI hf hsz hK
    simp only [hv] at hK ⊢
    gi_wp2
    exact hK _ _ (World.grownBy_alloc _ _ _) ⟨W.heap.size, hsz, Has.new _ _ _, rfl⟩
  case body =>
    rintro l pre ⟨s, g⟩ a1 W ⟨bf, hbf, hX, rfl⟩ ⟨⟨v, hO, hrow⟩, hB, hz⟩ ⟨hfx, hpre⟩ hsz
    have hpl : pre.length < hs.length := (List.getElem?_eq_some_iff.1 hfx).1
    obtain ⟨A, n, c, rfl⟩ : ∃ A n c, v = .slice A n c := by
      rcases hrow.2 with ⟨rfl, _⟩ | ⟨g2, cap, cur, rfl, _⟩
      · exact ⟨_, _, _, rfl⟩
      · exact ⟨_, _, _, rfl⟩
    have c0 : W.cell? ⟨w.heap.size, 0, none⟩ = some (.slice A n c) := hO.cell 0
    have x0 : W.cell? ⟨bf, 0, none⟩ = some (.int .i64 s) := hX.cell 0
    have x1 : W.cell? ⟨bf, 1, none⟩ = some (.int .u64 g) := hX.cell 1
    have HF := hide hfx
    have HO := hide hO
    simp only [hv]
    clear hfx hO hX hpre
    have f0 := HO.out.free 0
    have hOw := HO.out.lt
    have hnews := cells2_new W s g
    gi_wp2_with (
      gi_at_builtin
      refine wpListIn_append_own _ rfl _ _ 22 rfl w.heap.size 29 i0 (.agg #[.int .i64 0, .int .u64 0]) 2 16 Try.underlying22 hi hz0 hz1 hz2 rfl (by decide) _ _ _ rfl (hrow.alloc _) ⟨W.heap.size, 0, none⟩ 1 1 [.int .i64 s, .int .u64 g] rfl rfl hnews (by simp [Value.oneCell']) (by unfold maxLen; omega) (by omega) (by have := hB.size; simp; omega) ?_
      intro v' w3 hown' hgrow hnil
      obtain ⟨g', cap', hv'⟩ := ownsRow_succ hown'
      have hblk : ∀ k, (Value.slice A n c).ownBlock = some k → ∃ c, Has (W.alloc (.cells #[.int .i64 s, .int .u64 g] 29)) k 29 c := fun k hk => owns_block (hrow.alloc _) hk
      have hfar : ∀ (k : Nat) (t : TypeId) (cs : Array Value), t ≠ 29 → Has W k t cs → Has w3 k t cs := fun k t cs ht hh =>
        (hgrow.block k (by have := hh.lt; simp; omega) (fun e => by
          obtain ⟨c, hc⟩ := hblk k e.symm
          exact ht ((hh.alloc _).eq hc).1)).trans (hh.alloc _)
      have hO3 := hfar _ _ _ (by decide) HO.out
      have hB3 : Below w.heap.size w w3 := (hB.alloc hB.size _).trans ⟨hgrow.os, hgrow.tape, hgrow.output, hgrow.size, fun k hk => hgrow.block k (by have := hB.size; simp; omega) (fun e => by have := owns_base hrow e.symm; omega)⟩
      have hK3 : KeepsOthers W w3 := (KeepsOthers.alloc _ _).trans (KeepsOthers.of_grownBy hgrow (fun j o e ho => by
        obtain ⟨c, hc⟩ := hblk j e
        have hc' : (W.alloc (.cells #[.int .i64 s, .int .u64 g] 29)).heap[j]? = some (.cells c 29 (0, 0)) := hc
        rw [hc'] at ho
        cases ho
        rfl))
      have c3 : w3.cell? ⟨w.heap.size, 0, none⟩ = some (Value.slice A n c) := hO3.cell 0
      have f3 := hO3.free 0
      have HB3 := hide hB3
      have HK3 := hide hK3
      have HO3 := hide hO3
      have HFar := hide hfar
      have HOwn := hide hown'
      have hz3 := hide (Nat.le_trans hz hK3.size)
      subst hv'
      clear hB3 hK3 hO3 hfar hown' hgrow hblk c0 f0 x0 x1 hnews hrow hnil)
    refine ⟨(HK3.out.trans (KeepsOthers.setCell _ _ _)).from _, fun k cs hk => (HFar.out k _ cs (by decide) hk).far (p := ⟨w.heap.size, 0, none⟩) ((HFar.out k _ cs (by decide) hk).ne HO3.out (by decide)) _,
      ⟨_, HO3.out.set 0 _, ?_⟩, HB3.out.setCell (p := ⟨w.heap.size, 0, none⟩) (Nat.le_refl _) _, by rw [size_set]; exact hz3.out⟩
    have hrow4 := owns_kept (W := w3.setCell ⟨w.heap.size, 0, none⟩ (.slice (some ⟨g', 0, none⟩) (pre.length + 1) cap')) HOwn.out (fun g2 c hh => hh.far (p := ⟨w.heap.size, 0, none⟩) (hh.ne HO3.out (by decide)) _)
    rw [show (pre ++ [(s, g)]).length = pre.length + 1 by simp, show rowCells (pre ++ [(s, g)]) = rowCells pre ++ [.int .i64 s, .int .u64 g] by simp [rowCells]]
    exact hrow4
  case done =>
    rintro D xs W hD rfl ⟨⟨v, hO, hrow⟩, hB, hz⟩ hK
    have c0 : W.cell? ⟨w.heap.size, 0, none⟩ = some v := hO.cell 0
    have f0 := hO.free 0
    obtain ⟨A, n, c, rfl⟩ : ∃ A n c, v = .slice A n c := by
      rcases hrow.2 with ⟨rfl, _⟩ | ⟨g2, cap, cur, rfl, _⟩
      · exact ⟨_, _, _, rfl⟩
      · exact ⟨_, _, _, rfl⟩
    gi_wp2
    have hK' := (KeepsOthers.setCell W ⟨w.heap.size, 0, none⟩ (Value.slice A n c)).same D _ hK rfl
    have hO' := (hO.set 0 (Value.slice A n c)).turn (o := .deferred none) ⟨_, hK', rfl⟩
    have rr : ((W.setCell ⟨w.heap.size, 0, none⟩ (Value.slice A n c)).putObj D (.deferred none)).cell? ⟨w.heap.size, 0, none⟩ = some (.slice A n c) := hO'.cell 0
    have hB' := below_turn (o := .deferred none) (hB.setCell (p := ⟨w.heap.size, 0, none⟩) (Nat.le_refl _) (Value.slice A n c)) (l := D) (by omega)
    refine ⟨by simp, .inl ⟨_, _, rfl, run_takeDeferred hK', ?_⟩⟩
    refine ⟨_, by simp [results, Try.results16, go_sem, rr]; rfl, _, rfl, ?_, hB'⟩
    exact owns_kept hrow (fun g2 c2 hh => (hh.far (p := ⟨w.heap.size, 0, none⟩) (hh.ne hO (by decide)) _).turn ⟨_, hK', rfl⟩)
  case stop =>
    rintro D c pre W hD _ h hK
    exact h.elim

end Go.Proofs.Ytagminbfboncoaa
