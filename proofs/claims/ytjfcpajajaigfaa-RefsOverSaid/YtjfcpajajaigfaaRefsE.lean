import Derived.Test.YtjfcpajajaigfaaRefsD
import Derived.RangeFuncBox
import Derived.Maps.AppendAt
/-! Package refs: Owned, EndLent. -/
namespace Go.Proofs.Ytjfcpajajaigfaa
open Go.RowKit Go.Maps Go.Shelf
attribute [local go_sem] Oper.semAt_some
set_option maxHeartbeats 2000000
set_option maxRecDepth 100000
set_option linter.unusedSimpArgs false
set_option linter.unusedVariables false

theorem cell_turn {W : World} {g c l : Nat} {o : Obj} {v : Value} (h : W.cell? ⟨g, c, none⟩ = some v) (hl : ∃ o', W.heap[l]? = some o' ∧ o'.isCells = false) : (W.putObj l o).cell? ⟨g, c, none⟩ = some v := by
  obtain ⟨o', h1, h2⟩ := hl
  have hne : g ≠ l := fun e => by
    subst e
    unfold World.cell? at h
    simp only [h1] at h
    cases o' <;> simp [Obj.isCells] at h2 h
  exact (World.cell?_of_block (a := ⟨g, c, none⟩) (World.putObj_heap_other hne)).trans h
theorem cell_back {W : World} {g c l : Nat} {o : Obj} {v : Value} (h : W.cell? ⟨g, c, none⟩ = some v) (hl : ∃ o', W.heap[l]? = some o' ∧ o'.isCells = false) : W.cell? ⟨g, c, none⟩ = (W.putObj l o).cell? ⟨g, c, none⟩ := h.trans (cell_turn h hl).symm
theorem cell_grown {W W' : World} {g c : Nat} {v : Value} (h : W.cell? ⟨g, c, none⟩ = some v) (hg : W.grownBy W' none) : W'.cell? ⟨g, c, none⟩ = some v :=
  (World.cell?_of_block (a := ⟨g, c, none⟩) (hg.block g (World.block_lt_of_cell? W _ h) (by simp))).trans h

theorem keep_turn (g0 bk : Nat) (x : Nat) (A C : World) (l : Nat) (o o' : Obj) (hA : ∃ q, A.heap[l]? = some q ∧ q.isCells = false) (hC : ∃ q, C.heap[l]? = some q ∧ q.isCells = false) (h : areKeep g0 bk x (A.putObj l o) C) : areKeep g0 bk x A (C.putObj l o') :=
  ⟨fun c v hc hv => cell_turn (h.1 c v hc (cell_turn hv hA)) hC, fun v hv => cell_turn (h.2 v (cell_turn hv hA)) hC⟩
theorem keep_grown (g0 bk : Nat) (x : Nat) (W W1 W3 : World) (hg : W.grownBy W1 none) (h : areKeep g0 bk x W1 W3) : areKeep g0 bk x W W3 :=
  ⟨fun c v hc hv => h.1 c v hc (cell_grown hv hg), fun v hv => h.2 v (cell_grown hv hg)⟩

def numCells (l : List Nat) : List Value := l.map fun (x : Nat) => Value.int .u64 (x : Int)
theorem info_u64 : (Try.prog.info? 50).map (fun i => (i.zero, i.size, i.bytes)) = some (some (.int .u64 0), 1, 8) := by kernel_rfl

theorem one_cell {w : World} {b : Nat} {u : Value} (h : w.cell? ⟨b, 0, none⟩ = some u) : ∀ j v, [u][j]? = some v → w.cell? ((⟨b, 0, none⟩ : Addr).add j) = some v := by
  intro j v hv
  rw [add_g]
  cases j with
  | zero => simp at hv; rw [← hv]; exact h
  | succ j => simp at hv

theorem nums_le (L : List Rf) (k : Int) : ∀ i, ∀ x ∈ nums L k i, 1 ≤ x ∧ x ≤ i
  | 0, x, h => by simp [nums] at h
  | i + 1, x, h => by
    have ih := nums_le L k i
    cases hL : L[i]? with
    | none =>
      unfold nums at h
      rw [hL] at h
      have := ih x h
      omega
    | some y =>
      by_cases hk : y.k = k
      · rw [nums_yes hL hk] at h
        simp only [List.mem_append, List.mem_singleton] at h
        rcases h with h | h
        · have := ih x h; omega
        · omega
      · rw [nums_no hL hk] at h
        have := ih x h
        omega
theorem nums_len (L : List Rf) (k : Int) : ∀ i, (nums L k i).length ≤ i
  | 0 => by simp [nums]
  | i + 1 => by
    have ih := nums_len L k i
    cases hL : L[i]? with
    | none =>
      unfold nums
      rw [hL]
      simp only []
      omega
    | some y =>
      by_cases hk : y.k = k
      · rw [nums_yes hL hk, List.length_append, List.length_singleton]; omega
      · rw [nums_no hL hk]; omega

theorem refs_owned (N : Nat) (w : World) (b : Nat) (L : List Rf) (h : RefsIs N w b L) (hL : L.length ≤ 100000) :
    Calls Try.prog 21 #[.pointer (some ⟨b, 0, none⟩)] w fun e w' => ∃ v, e = .returned v ∧ (w'.ownsRow w.heap.size 50 1 v (nums L 1 L.length).length (numCells (nums L 1 L.length)) ∧ Below w.heap.size w w') ∧ (nums L 1 L.length = [] → v = .slice none 0 0) := by
  obtain ⟨A, c, hb, hown⟩ := h.form
  obtain ⟨i0, hi, hz0, hz1, hz2⟩ := info_parts info_u64
  have hg0 : ∃ g0, (0 < L.length → A = some ⟨g0, 0, none⟩) ∧ (0 < L.length → g0 < w.heap.size) := by
    by_cases hl : 0 < L.length
    · obtain ⟨g0, cap, hA⟩ := owns_some hown hl
      injection hA with hA1 _ _
      subst hA1
      exact ⟨g0, fun _ => rfl, fun _ => owns_lt hown rfl⟩
    · exact ⟨0, fun h => absurd h hl, fun h => absurd h hl⟩
  obtain ⟨g0, hA, hgl⟩ := hg0
  refine (callsIn_wide (n := 4)).1 ?_
  refine callsIn_of_wp_marks Try.func21 rfl trivial ?_ rfl
  simp only [Try.ntmps21, List.size_toArray, List.length_cons, List.length_nil, Nat.reduceAdd, Nat.reduceSub, Array.replicate_succ, Array.replicate_zero, List.push_toArray, List.append_toArray, List.nil_append, List.cons_append]
  gi_wp2
  refine ⟨trivial, ?_⟩
  obtain ⟨w2, hw2⟩ : ∃ w2, w2 = w.alloc (Obj.cells #[.slice none 0 0] 61) := ⟨_, rfl⟩
  have hO0 : Has w2 w.heap.size 61 #[.slice none 0 0] := by rw [hw2]; exact Has.new w _ _
  have hB0 : Below w.heap.size w w2 := by rw [hw2]; exact (Below.refl _ w).alloc (Nat.le_refl _) _
  have hs0 : w2.heap.size = w.heap.size + 1 := by rw [hw2]; simp
  rw [← hw2]
  clear hw2
  refine (callsIn_wide.2 (refs_are w2 b 1)).mono ?_
  rintro e w1 ⟨bc, bk, rfl, hbc, hbk, hcap, hcapk, hb1⟩
  gi_wp2
  have hO1 := hO0.below hb1 (by omega)
  have hB1 : Below w.heap.size w w1 := hB0.trans (hb1.mono (by omega))
  have hz1' : w.heap.size + 1 ≤ w1.heap.size := by have := hb1.size; omega
  have hbW := hb.below hB1 hb.lt
  have hownW := owns_below hown hB1
  refine wpIn_range_of rfl (by omega) (gf := 39) (lb := #[.pointer (some ⟨bc, 0, none⟩), .pointer (some ⟨bk, 0, none⟩)]) rfl trivial (enters_of Try.func39 (by kernel_rfl) rfl)
    (are_rounds _ w1 b bc bk N L A g0 c 1 hL hbW hownW hA hcap hcapk) (Below.refl _ _) (fun _ => rfl) (fun x => fun _ _ _ _ h _ _ => h) (fun _ _ _ _ h _ _ => h) (fun _ _ _ _ h _ _ => h) (fun x A C l o o' _ h2 h3 h4 => keep_turn _ _ x A C l o o' h2 h3 h4)
    (fun pre W => (∃ v, Has W w.heap.size 61 #[v] ∧ W.ownsRow w.heap.size 50 1 v pre.length (numCells pre) ∧ (pre = [] → v = .slice none 0 0)) ∧ Has W bk 5 #[.int .u8 1] ∧ Below w.heap.size w W ∧ w1.heap.size ≤ W.heap.size)
    (fun _ _ _ => False)
    (fun pre W W' h hg => ⟨by obtain ⟨v, h1, h2, h3⟩ := h.1; exact ⟨v, h1.grown hg, owns_grown h2 hg, h3⟩, h.2.1.grown hg, below_grow h.2.2.1 (by have := h.2.2.2; omega) hg, Nat.le_trans h.2.2.2 hg.size⟩)
    (fun pre W l o h hl ho => ⟨by obtain ⟨v, h1, h2, h3⟩ := h.1; exact ⟨v, h1.turn ho, owns_turn h2 ho, h3⟩, h.2.1.turn ho, below_turn h.2.2.1 (by omega), by simpa using h.2.2.2⟩)
    (fun _ _ _ _ h _ => h) (fun _ _ _ _ _ h _ _ => h)
    ⟨⟨_, hO1, World.ownsRow_nil _ _ _ _, fun _ => rfl⟩, hcapk, hB1, Nat.le_refl _⟩
    (fun x a1 W => a1 = { tmps := #[.pointer (some ⟨b, 0, none⟩), undef, .pointer (some ⟨w.heap.size, 0, none⟩), .int .u64 (x : Int), .pointer (some ⟨b, 0, none⟩), .func (.func 39) #[] #[.pointer (some ⟨bc, 0, none⟩), .pointer (some ⟨bk, 0, none⟩)], .int .u64 (x : Int), undef, undef, undef, undef, undef], defers := [] })
    (fun x a1 pre W l o h hl ho => h)
    (fun x => fun _ _ _ h _ => h) (fun x W W1 W3 hg h => keep_grown _ _ x W W1 W3 hg h) ?assign ?body ?done ?stop
  case assign =>
    rintro l pre x W K hI hf hsz hK
    gi_wp2
    exact hK _ _ ⟨rfl, rfl, rfl, Nat.le_refl _, fun _ _ _ => rfl⟩ rfl
  case body =>
    rintro l pre x a1 W rfl ⟨⟨v, hO, hrow, _⟩, hK1, hB, hz⟩ ⟨i, y, rfl, hpre, hy, hyk⟩ hsz
    have hpl : pre.length ≤ 100000 := by
      rw [hpre]
      have h1 := nums_len L 1 i
      have := (List.getElem?_eq_some_iff.1 hy).1
      omega
    obtain ⟨A2, c2, rfl⟩ := row_form hrow
    have hg0 : g0 < w.heap.size := hgl (by have := (List.getElem?_eq_some_iff.1 hy).1; omega)
    have c0 : W.cell? ⟨w.heap.size, 0, none⟩ = some (.slice A2 pre.length c2) := hO.cell 0
    have f0 := hO.free 0
    obtain ⟨X, hX⟩ : ∃ X : Int, X = ((i + 1 : Nat) : Int) := ⟨_, rfl⟩
    rw [← hX]
    have HX := hide hX
    have HPRE := hide (And.intro hpre (And.intro hy hyk))
    have HO := hide hO
    have HK1 := hide hK1
    have hnews := one_cell ((Has.new W 50 #[.int .u64 X]).cell 0)
    have hOw := hO.lt
    clear hX hpre hy hyk hO hK1
    gi_wp2_with (
      gi_at_builtin
      refine wpListIn_append_own _ rfl _ _ 61 rfl w.heap.size 50 i0 (.int .u64 0) 1 8 Try.underlying61 hi hz0 hz1 hz2 rfl (by decide) _ _ _ rfl (hrow.alloc _) ⟨W.heap.size, 0, none⟩ 1 1 [.int .u64 X] rfl rfl hnews (by simp [Value.oneCell']) (by unfold maxLen; omega) (by omega) (by have := hB.size; simp; omega) ?_
      intro v' w3 hown' hgrow hnil
      obtain ⟨g', cap', hv'⟩ := ownsRow_succ hown'
      have hblk : ∀ k, (Value.slice A2 pre.length c2).ownBlock = some k → ∃ c, Has (W.alloc (.cells #[.int .u64 X] 50)) k 50 c := fun k hk => owns_block (hrow.alloc _) hk
      have hfar : ∀ (k : Nat) (t : TypeId) (cs : Array Value), t ≠ 50 → Has W k t cs → Has w3 k t cs := fun k t cs ht hh =>
        (hgrow.block k (by have := hh.lt; simp; omega) (fun e => by
          obtain ⟨c, hc⟩ := hblk k e.symm
          exact ht ((hh.alloc _).eq hc).1)).trans (hh.alloc _)
      have hO3 := hfar _ _ _ (by decide) HO.out
      have hK3b := hfar _ _ _ (by decide) HK1.out
      have hB3 : Below w.heap.size w w3 := (hB.alloc hB.size _).trans ⟨hgrow.os, hgrow.tape, hgrow.output, hgrow.size, fun k hk => hgrow.block k (by have := hB.size; simp; omega) (fun e => by have := owns_base hrow e.symm; omega)⟩
      have hK3 : KeepsOthers W w3 := (KeepsOthers.alloc _ _).trans (KeepsOthers.of_grownBy hgrow (fun j o e ho => by
        obtain ⟨c, hc⟩ := hblk j e
        have hc' : (W.alloc (.cells #[.int .u64 X] 50)).heap[j]? = some (.cells c 50 (0, 0)) := hc
        rw [hc'] at ho
        cases ho
        rfl))
      have c3 : w3.cell? ⟨w.heap.size, 0, none⟩ = some (Value.slice A2 pre.length c2) := hO3.cell 0
      have f3 := hO3.free 0
      have HB3 := hide hB3
      have HK3 := hide hK3
      have HK3b := hide hK3b
      have HO3 := hide hO3
      have HOwn := hide hown'
      have hz3 := hide (Nat.le_trans hz hK3.size)
      subst hv'
      clear hB3 hK3 hK3b hO3 hfar hown' hgrow hblk c0 f0 hnews hrow hnil)
    have hne : bk ≠ w.heap.size := HK3b.out.ne HO3.out (by decide)
    refine ⟨(HK3.out.trans (KeepsOthers.setCell _ _ _)).from _, ⟨fun q v hq hv => ?_, fun v hv => ?_⟩,
      ⟨_, HO3.out.set 0 _, ?_, fun h => by simp at h⟩, HK3b.out.far (p := ⟨w.heap.size, 0, none⟩) hne _, HB3.out.setCell (p := ⟨w.heap.size, 0, none⟩) (Nat.le_refl _) _, by rw [size_set]; exact hz3.out⟩
    · rw [World.cell?_of_block (a := ⟨g0, q, none⟩) (Below.heap_setCell w3 ⟨w.heap.size, 0, none⟩ _ g0 (by show g0 ≠ w.heap.size; omega)), cell_below HB3.out hg0, ← cell_below hB hg0]
      exact hv
    · have h1 := HK1.out.cell 0
      rw [h1] at hv
      have h2 := (HK3b.out.far (p := ⟨w.heap.size, 0, none⟩) hne (.slice (some ⟨g', 0, none⟩) (pre.length + 1) cap')).cell 0
      rw [h2]
      exact hv
    have hrow4 := owns_kept (w' := w3.setCell ⟨w.heap.size, 0, none⟩ (.slice (some ⟨g', 0, none⟩) (pre.length + 1) cap')) HOwn.out (fun q hq => Below.heap_setCell w3 ⟨w.heap.size, 0, none⟩ _ q (fun e => by
      obtain ⟨cc, hcc⟩ := owns_block HOwn.out hq
      rw [e] at hcc
      exact absurd (hcc.eq HO3.out).1 (by decide)))
    rw [show (pre ++ [i + 1]).length = pre.length + 1 by simp, show numCells (pre ++ [i + 1]) = numCells pre ++ [.int .u64 X] by rw [HX.out]; simp [numCells]]
    exact hrow4
  case done =>
    rintro D xs W hD rfl ⟨⟨v, hO, hrow, hnil⟩, hK1, hB, hz⟩ hK
    have HNIL := hide hnil
    clear hnil
    have c0 : W.cell? ⟨w.heap.size, 0, none⟩ = some v := hO.cell 0
    have f0 := hO.free 0
    obtain ⟨A2, c2, rfl⟩ := row_form hrow
    gi_wp2
    have hK' := (KeepsOthers.setCell W ⟨w.heap.size, 0, none⟩ (Value.slice A2 (nums L 1 L.length).length c2)).same D _ hK rfl
    have hO' := (hO.set 0 (Value.slice A2 (nums L 1 L.length).length c2)).turn (o := .deferred none) ⟨_, hK', rfl⟩
    have rr : ((W.setCell ⟨w.heap.size, 0, none⟩ (Value.slice A2 (nums L 1 L.length).length c2)).putObj D (.deferred none)).cell? ⟨w.heap.size, 0, none⟩ = some (.slice A2 (nums L 1 L.length).length c2) := hO'.cell 0
    have hB' := below_turn (o := .deferred none) (hB.setCell (p := ⟨w.heap.size, 0, none⟩) (Nat.le_refl _) (Value.slice A2 (nums L 1 L.length).length c2)) (l := D) (by omega)
    refine ⟨by simp, .inl ⟨_, _, rfl, run_takeDeferred hK', ?_⟩⟩
    refine ⟨_, by first | (simp [results, Try.results21, go_sem, rr]; rfl) | (simp [results, Try.results21, go_sem, rr]; done), _, rfl, ⟨?_, hB'⟩, HNIL.out⟩
    refine owns_turn ?_ ⟨_, hK', rfl⟩
    exact owns_kept hrow (fun q hq => Below.heap_setCell W ⟨w.heap.size, 0, none⟩ _ q (fun e => by
      obtain ⟨cc, hcc⟩ := owns_block hrow hq
      rw [e] at hcc
      exact absurd (hcc.eq hO).1 (by decide)))
  case stop =>
    rintro D c pre W hD _ h hK
    exact h.elim

end Go.Proofs.Ytjfcpajajaigfaa
