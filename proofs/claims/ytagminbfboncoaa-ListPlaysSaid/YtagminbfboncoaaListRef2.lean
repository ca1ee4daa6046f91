import Derived.Test.YtagminbfboncoaaListRef
/-! Package list: the document's answer (wardenref15): Cut, Put, Push. -/
namespace Go.Proofs.Ytagminbfboncoaa
open Go.RowKit Go.Maps
set_option maxHeartbeats 4000000
set_option maxRecDepth 100000
set_option linter.unusedSimpArgs false
set_option linter.unusedVariables false

theorem rowCells_append (a b : List (Int × Int)) : rowCells (a ++ b) = rowCells a ++ rowCells b := by simp [rowCells]
theorem rowCells_length (a : List (Int × Int)) : (rowCells a).length = a.length * 2 := by
  induction a with
  | nil => rfl
  | cons x a ih =>
    have e : rowCells (x :: a) = .int .i64 x.1 :: .int .u64 x.2 :: rowCells a := rfl
    rw [e]
    simp [ih]
    omega
theorem rowCells_take (a : List (Int × Int)) (k : Nat) (h : k ≤ a.length) : rowCells (a.take k) = (rowCells a).take (k * 2) := by
  have e : rowCells a = rowCells (a.take k) ++ rowCells (a.drop k) := by rw [← rowCells_append, List.take_append_drop]
  have l : (rowCells (a.take k)).length = k * 2 := by rw [rowCells_length, List.length_take, Nat.min_eq_left h]
  rw [e, ← l, List.take_left]
theorem rowCells_drop (a : List (Int × Int)) (k : Nat) (h : k ≤ a.length) : rowCells (a.drop k) = (rowCells a).drop (k * 2) := by
  have e : rowCells a = rowCells (a.take k) ++ rowCells (a.drop k) := by rw [← rowCells_append, List.take_append_drop]
  have l : (rowCells (a.take k)).length = k * 2 := by rw [rowCells_length, List.length_take, Nat.min_eq_left h]
  rw [e, ← l, List.drop_left]
theorem rowCells_one (a : List (Int × Int)) : ∀ u ∈ rowCells a, u.oneCell' = true := by
  intro u hu
  unfold rowCells at hu
  obtain ⟨x, _, hx⟩ := List.mem_flatMap.1 hu
  simp at hx
  rcases hx with rfl | rfl <;> rfl
theorem row_all {W : World} {base n cap m g : Nat} {hs : List (Int × Int)} (h : W.ownsRow base 29 2 (.slice (some ⟨g, 0, none⟩) n cap) m (rowCells hs)) : n ≤ cap ∧ cap ≤ maxLen ∧ ∀ j u, (rowCells hs)[j]? = some u → W.cell? ⟨g, j, none⟩ = some u := by
  obtain ⟨hlen, h⟩ := h
  rcases h with ⟨h, hn⟩ | ⟨g2, cap2, cur, h0, hg, hb, hc1, hc2, hc3, hcs⟩
  · cases h
  · injection h0 with h1 h2 h3
    injection h1 with h4
    injection h4 with h5
    subst h5 h2 h3
    refine ⟨hc1, hc2, fun j u hj => ?_⟩
    have hh : Has W g 29 cur := hb
    rw [← hcs, List.getElem?_take] at hj
    rw [hh.cell, ← Array.getElem?_toList]
    split at hj
    · exact hj
    · cases hj

theorem row_set {w : World} {base n size : Nat} {e : TypeId} {v : Value} {xs : List Value} (h : w.ownsRow base e size v n xs) {p : Addr} (hp : p.block < base) (u : Value) : (w.setCell p u).ownsRow base e size v n xs := by
  obtain ⟨h1, h2⟩ := h
  refine ⟨h1, ?_⟩
  rcases h2 with h2 | ⟨g, cap, cur, h3, h4, h5, h6⟩
  · exact .inl h2
  · exact .inr ⟨g, cap, cur, h3, h4, (Below.heap_setCell w p u g (by omega)).trans h5, h6⟩

theorem row_mono {w : World} {base base' n size : Nat} {e : TypeId} {v : Value} {xs : List Value} (h : w.ownsRow base e size v n xs) (hb : base' ≤ base) : w.ownsRow base' e size v n xs := by
  obtain ⟨h1, h2⟩ := h
  refine ⟨h1, ?_⟩
  rcases h2 with h2 | ⟨g, cap, cur, h3, h4, h5, h6⟩
  · exact .inl h2
  · exact .inr ⟨g, cap, cur, h3, Nat.le_trans hb h4, h5, h6⟩

theorem add_g (g o j : Nat) : (⟨g, o, none⟩ : Addr).add j = ⟨g, o + j, none⟩ := by
  unfold Addr.add
  split
  · next h => subst h; rfl
  · rfl

theorem ref_cut (N : Nat) (w : World) (x : Nat) (hs : List (Int × Int)) (h : RefIs N w x hs) (hsm : hs.length ≤ 100000) (i : Nat) (p : Int × Int) (hp : hs[i]? = some p) :
    Calls Try.prog 24 #[.pointer (some ⟨x, 0, none⟩), .int .i64 i] w fun e w' => e = .returned (hv p) ∧ RefIs N w' x (hs.eraseIdx i) ∧ Turned (fun k => k = x) w w' := by
  obtain ⟨i0, hi, hz0, hz1, hz2⟩ := info_parts info_h
  obtain ⟨A, c, hx, hrow⟩ := h.form
  obtain ⟨g0, cap, hv0, q0, q1⟩ := row_at hrow hp
  injection hv0 with hq1 hq2 hq3
  subst hq1
  obtain ⟨hnc, hcm, hcells⟩ := row_all hrow
  obtain ⟨M, hM⟩ : ∃ M, M = hs.length := ⟨_, rfl⟩
  rw [← hM] at hx hrow hnc hsm
  have hiM : i < M := by rw [hM]; exact (List.getElem?_eq_some_iff.1 hp).1
  have hNx := h.1
  obtain ⟨s, g⟩ := p
  simp only [] at q0 q1
  have hxl := hx.lt
  have hgl : g0 < w.heap.size := World.block_lt_of_cell? w _ q0
  obtain ⟨w1, hw1⟩ : ∃ w1, w1 = (w.alloc (.cells #[.int .i64 0, .int .u64 0] 29)).alloc (.cells #[.int .i64 s, .int .u64 g] 29) := ⟨_, rfl⟩
  have B1 : Below w.heap.size w w1 := by rw [hw1]; go_grown
  have c0 : w.cell? ⟨x, 0, none⟩ = some (.slice (some ⟨g0, 0, none⟩) M c) := hx.cell 0
  have ca : (w.alloc (.cells #[.int .i64 0, .int .u64 0] 29)).cell? ⟨x, 0, none⟩ = some (.slice (some ⟨g0, 0, none⟩) M c) := (hx.alloc _).cell 0
  have qa : (w.alloc (.cells #[.int .i64 0, .int .u64 0] 29)).cell? ⟨g0, i * 2, none⟩ = some (.int .i64 s) := (cell_below ((Below.refl w.heap.size w).alloc (Nat.le_refl _) _) hgl).trans q0
  have qb : (w.alloc (.cells #[.int .i64 0, .int .u64 0] 29)).cell? ⟨g0, i * 2 + 1, none⟩ = some (.int .u64 g) := (cell_below ((Below.refl w.heap.size w).alloc (Nat.le_refl _) _) hgl).trans q1
  have hii : (i : Int) < (M : Int) := by omega
  have c1 : w1.cell? ⟨x, 0, none⟩ = some (.slice (some ⟨g0, 0, none⟩) M c) := (hx.below B1 hx.lt).cell 0
  have hii2 : (i : Int) ≤ (c : Int) := by omega
  have hii3 : i ≤ c := by omega
  have HX := hide hx
  have HROW := hide hrow
  have HCE := hide hcells
  have HM := hide hM
  have HP := hide hp
  clear hp hcells hq2 hq3 hx hrow hM h
  go_enter Try.func24, Try.ntmps24
  have hn1 : ∀ j u, (rowCells (hs.take i))[j]? = some u → ((w.alloc (.cells #[.int .i64 0, .int .u64 0] 29)).alloc (.cells #[.int .i64 s, .int .u64 g] 29)).cell? ((⟨g0, 0, none⟩ : Addr).add j) = some u := by
    intro j u hj
    rw [← hw1, rowCells_take _ _ (by rw [← HM.out]; omega), List.getElem?_take] at *
    split at hj
    · have := HCE.out j u hj
      rw [← cell_below B1 hgl] at this
      rw [add_g, Nat.zero_add]
      exact this
    · cases hj
  have hl1 : (rowCells (hs.take i)).length = i * 2 := by rw [rowCells_length, List.length_take, Nat.min_eq_left (by rw [← HM.out]; omega)]
  have B1e : Hid (Below w.heap.size w ((w.alloc (.cells #[.int .i64 0, .int .u64 0] 29)).alloc (.cells #[.int .i64 s, .int .u64 g] 29))) := hide (by rw [← hw1]; exact B1)
  have HW4 : Hid (Has ((w.alloc (.cells #[.int .i64 0, .int .u64 0] 29)).alloc (.cells #[.int .i64 s, .int .u64 g] 29)) w.heap.size 29 #[.int .i64 0, .int .u64 0]) := hide ((Has.new w _ _).alloc _)
  have HW5 : Hid (Has ((w.alloc (.cells #[.int .i64 0, .int .u64 0] 29)).alloc (.cells #[.int .i64 s, .int .u64 g] 29)) (w.heap.size + 1) 29 #[.int .i64 s, .int .u64 g]) := hide (Has.last _ _ _ (by simp))
  have hmo : M ≤ 100000 := hsm
  rw [hw1] at c1
  clear hw1 B1
  by_cases hic : c = i + 1
  · have hMc : M = i + 1 := by omega
    subst hic
    subst hMc
    have HN2 : Hid (∀ W : World, (∀ j, W.cell? ⟨g0, j, none⟩ = w.cell? ⟨g0, j, none⟩) → ∀ j u, ([] : List Value)[j]? = some u → W.cell? ((⟨g0, 0, none⟩ : Addr).add j) = some u) := hide (fun W h j u hj => by simp at hj)
    have cellsame : ∀ {W V : World}, Below w.heap.size w W → Below (w.heap.size + 2) W V → ∀ j, V.cell? ⟨g0, j, none⟩ = w.cell? ⟨g0, j, none⟩ := fun hb1 hb2 j => (cell_below hb2 (by omega)).trans (cell_below hb1 hgl)
    go_wp2_with (first
      | (at_builtin
         refine wpList_append_own _ rfl _ _ 22 rfl (w.heap.size + 2) 29 i0 (.agg #[.int .i64 0, .int .u64 0]) 2 16 Try.underlying22 hi hz0 hz1 hz2 rfl (by decide) _ _ _ rfl (World.ownsRow_nil _ _ _ _) ⟨g0, 0, none⟩ i (i + 1) (rowCells (hs.take i)) rfl hl1 hn1 (rowCells_one _) (by unfold maxLen; omega) (by omega) (by simp) ?_
         intro v' w3 hown hgrow hnil
         have HG3 := hide (show Below (w.heap.size + 2) ((w.alloc (.cells #[.int .i64 0, .int .u64 0] 29)).alloc (.cells #[.int .i64 s, .int .u64 g] 29)) w3 from ⟨hgrow.os, hgrow.tape, hgrow.output, hgrow.size, fun k hk => hgrow.block k (by simp; omega) (show ¬ some k = Value.ownBlock (.slice none 0 0) from by simp [Value.ownBlock])⟩)
         have hs3 : w.heap.size + 2 ≤ w3.heap.size := by have := HG3.out.size; simpa using this
         rw [Nat.zero_add] at hown
         obtain ⟨A2, c2, hvf⟩ := row_form hown
         subst hvf
         have HO3 := hide hown
         have c3 : w3.cell? ⟨x, 0, none⟩ = some (.slice (some ⟨g0, 0, none⟩) (i + 1) (i + 1)) := (cell_below HG3.out (by omega)).trans c1
         have hiw : IntKind.i64.wrap ((i : Int) + 1) = ((i + 1 : Nat) : Int) := by rw [wrap_i64 (by omega) (by omega)]; rfl
         have hi1 : i + 1 ≤ (i + 1) := by omega
         have hi2 : ((i + 1 : Nat) : Int) ≤ ((i + 1) : Nat) := by omega
         have hi3 : i + 1 ≤ (i + 1) := by omega
         have hn2 := HN2.out w3 ((cellsame B1e.out HG3.out))
         clear hown hgrow hnil hn1 hl1 c1 c0 ca qa qb)
      | (at_builtin
         refine wpList_append_own _ rfl _ _ 22 rfl (w.heap.size + 2) 29 i0 (.agg #[.int .i64 0, .int .u64 0]) 2 16 Try.underlying22 hi hz0 hz1 hz2 rfl (by decide) _ _ _ rfl HO3.out ⟨g0, 0, none⟩ (0) (0) [] rfl (by simp) hn2 (by simp) (by unfold maxLen; omega) (by omega) hs3 ?_
         intro v2 w4 hown2 hgrow2 hnil2
         obtain ⟨A3, c4, hv3⟩ := row_form hown2
         subst hv3
         have HO4 := hide hown2
         have HG4 := hide (show Below (w.heap.size + 2) w3 w4 from ⟨hgrow2.os, hgrow2.tape, hgrow2.output, hgrow2.size, fun k hk => hgrow2.block k (by omega) (fun e => by have := owns_base HO3.out e.symm; omega)⟩)
         have BT : Below w.heap.size w w4 := B1e.out.trans ((HG3.out.trans HG4.out).mono (by omega))
         have hX4 := HX.out.below BT hxl
         have h4 := HW4.out.below (HG3.out.trans HG4.out) (by omega)
         have h5 := HW5.out.below (HG3.out.trans HG4.out) (by omega)
         have fx := hX4.free 0
         have hx4 : x ≠ w.heap.size := by omega
         have hx5 : x ≠ w.heap.size + 1 := by omega
         have h4' := h4.far (p := ⟨x, 0, none⟩) (fun e => hx4 e.symm) (.slice A3 i c4)
         have h5' := h5.far (p := ⟨x, 0, none⟩) (fun e => hx5 e.symm) (.slice A3 i c4)
         have z0 : (w4.setCell ⟨x, 0, none⟩ (.slice A3 i c4)).cell? ⟨w.heap.size + 1, 0, none⟩ = some (.int .i64 s) := h5'.cell 0
         have z1 : (w4.setCell ⟨x, 0, none⟩ (.slice A3 i c4)).cell? ⟨w.heap.size + 1, 1, none⟩ = some (.int .u64 g) := h5'.cell 1
         have v0 : (w4.setCell ⟨x, 0, none⟩ (.slice A3 i c4)).cell? ⟨w.heap.size, 0, none⟩ = some (.int .i64 0) := h4'.cell 0
         have v1 : (w4.setCell ⟨x, 0, none⟩ (.slice A3 i c4)).cell? ⟨w.heap.size, 1, none⟩ = some (.int .u64 0) := h4'.cell 1
         have cx := hX4.cell 0
         simp at cx
         have y0 := h4'.free 0
         have y1 := h4'.free 1
         have HT := hide BT
         have HX4 := hide hX4
         have H4 := hide h4'
         clear hown2 hgrow2 hnil2 BT hX4 h4 h5 h4' h5' c3))
    have r6 := (H4.out.set 0 (.int .i64 s)).set 1 (.int .u64 g)
    have r0 : (((w4.setCell ⟨x, 0, none⟩ (.slice A3 i c4)).setCell ⟨w.heap.size, 0, none⟩ (.int .i64 s)).setCell ⟨w.heap.size, 1, none⟩ (.int .u64 g)).cell? ⟨w.heap.size, 0, none⟩ = some (.int .i64 s) := r6.cell 0
    have r1 : (((w4.setCell ⟨x, 0, none⟩ (.slice A3 i c4)).setCell ⟨w.heap.size, 0, none⟩ (.int .i64 s)).setCell ⟨w.heap.size, 1, none⟩ (.int .u64 g)).cell? ⟨w.heap.size, 1, none⟩ = some (.int .u64 g) := r6.cell 1
    refine bodyPost_ret (by simp [results, Try.results24, go_sem, r0, r1]; rfl) rfl ?_
    refine ⟨rfl, ⟨hNx, .slice A3 i c4, ((HX4.out.set 0 _).far (p := ⟨w.heap.size, 0, none⟩) hx4 _).far (p := ⟨w.heap.size, 1, none⟩) hx4 _, ?_⟩, (((Turned.of_below (S := fun k => k = x) HT.out).set (p := ⟨x, 0, none⟩) (fun _ => rfl) _).set (p := ⟨w.heap.size, 0, none⟩) (fun h => absurd h (by simp)) _).set (p := ⟨w.heap.size, 1, none⟩) (fun h => absurd h (by simp)) _⟩
    have hrow := row_mono (base' := N) (row_set (row_set (row_set HO4.out (p := ⟨x, 0, none⟩) (by simp; omega) (.slice A3 i c4)) (p := ⟨w.heap.size, 0, none⟩) (by simp) (.int .i64 s)) (p := ⟨w.heap.size, 1, none⟩) (by simp) (.int .u64 g)) (by omega)
    have he : hs.eraseIdx i = hs.take i := by
      rw [List.eraseIdx_eq_take_drop_succ, List.drop_eq_nil_of_le (by rw [← HM.out]; exact Nat.le_refl _), List.append_nil]
    have hlen : (hs.take i).length = i := by rw [List.length_take, Nat.min_eq_left (by rw [← HM.out]; omega)]
    rw [he, hlen]
    simpa using hrow
  · have hic2 : ¬ i + 1 = c := fun e => hic e.symm
    have hic3 : ¬ ((c : Int) = ((i + 1 : Nat) : Int)) := by omega
    have hic4 : ¬ (((i + 1 : Nat) : Int) = (c : Int)) := by omega
    have hl2 : (rowCells (hs.drop (i + 1))).length = (M - (i + 1)) * 2 := by rw [rowCells_length, List.length_drop, ← HM.out]
    have HN2 : Hid (∀ W : World, (∀ j, W.cell? ⟨g0, j, none⟩ = w.cell? ⟨g0, j, none⟩) → ∀ j u, (rowCells (hs.drop (i + 1)))[j]? = some u → W.cell? ((⟨g0, (i + 1) * 2, none⟩ : Addr).add j) = some u) := hide (fun W h j u hj => by
      rw [rowCells_drop _ _ (by rw [← HM.out]; exact hiM), List.getElem?_drop] at hj
      rw [add_g, h]
      exact HCE.out _ _ hj)
    have cellsame : ∀ {W V : World}, Below w.heap.size w W → Below (w.heap.size + 2) W V → ∀ j, V.cell? ⟨g0, j, none⟩ = w.cell? ⟨g0, j, none⟩ := fun hb1 hb2 j => (cell_below hb2 (by omega)).trans (cell_below hb1 hgl)
    go_wp2_with (first
      | (at_builtin
         refine wpList_append_own _ rfl _ _ 22 rfl (w.heap.size + 2) 29 i0 (.agg #[.int .i64 0, .int .u64 0]) 2 16 Try.underlying22 hi hz0 hz1 hz2 rfl (by decide) _ _ _ rfl (World.ownsRow_nil _ _ _ _) ⟨g0, 0, none⟩ i c (rowCells (hs.take i)) rfl hl1 hn1 (rowCells_one _) (by unfold maxLen; omega) (by omega) (by simp) ?_
         intro v' w3 hown hgrow hnil
         have HG3 := hide (show Below (w.heap.size + 2) ((w.alloc (.cells #[.int .i64 0, .int .u64 0] 29)).alloc (.cells #[.int .i64 s, .int .u64 g] 29)) w3 from ⟨hgrow.os, hgrow.tape, hgrow.output, hgrow.size, fun k hk => hgrow.block k (by simp; omega) (show ¬ some k = Value.ownBlock (.slice none 0 0) from by simp [Value.ownBlock])⟩)
         have hs3 : w.heap.size + 2 ≤ w3.heap.size := by have := HG3.out.size; simpa using this
         rw [Nat.zero_add] at hown
         obtain ⟨A2, c2, hvf⟩ := row_form hown
         subst hvf
         have HO3 := hide hown
         have c3 : w3.cell? ⟨x, 0, none⟩ = some (.slice (some ⟨g0, 0, none⟩) M c) := (cell_below HG3.out (by omega)).trans c1
         have hiw : IntKind.i64.wrap ((i : Int) + 1) = ((i + 1 : Nat) : Int) := by rw [wrap_i64 (by omega) (by omega)]; rfl
         have hi1 : i + 1 ≤ M := by omega
         have hi2 : ((i + 1 : Nat) : Int) ≤ (M : Nat) := by omega
         have hi3 : i + 1 ≤ c := by omega
         have hn2 := HN2.out w3 ((cellsame B1e.out HG3.out))
         clear hown hgrow hnil hn1 hl1 c1 c0 ca qa qb)
      | (at_builtin
         refine wpList_append_own _ rfl _ _ 22 rfl (w.heap.size + 2) 29 i0 (.agg #[.int .i64 0, .int .u64 0]) 2 16 Try.underlying22 hi hz0 hz1 hz2 rfl (by decide) _ _ _ rfl HO3.out ⟨g0, (i + 1) * 2, none⟩ (M - (i + 1)) (c - (i + 1)) (rowCells (hs.drop (i + 1))) rfl hl2 hn2 (rowCells_one _) (by unfold maxLen; omega) (by omega) hs3 ?_
         intro v2 w4 hown2 hgrow2 hnil2
         obtain ⟨A3, c4, hv3⟩ := row_form hown2
         subst hv3
         have HO4 := hide hown2
         have HG4 := hide (show Below (w.heap.size + 2) w3 w4 from ⟨hgrow2.os, hgrow2.tape, hgrow2.output, hgrow2.size, fun k hk => hgrow2.block k (by omega) (fun e => by have := owns_base HO3.out e.symm; omega)⟩)
         have BT : Below w.heap.size w w4 := B1e.out.trans ((HG3.out.trans HG4.out).mono (by omega))
         have hX4 := HX.out.below BT hxl
         have h4 := HW4.out.below (HG3.out.trans HG4.out) (by omega)
         have h5 := HW5.out.below (HG3.out.trans HG4.out) (by omega)
         have fx := hX4.free 0
         have hx4 : x ≠ w.heap.size := by omega
         have hx5 : x ≠ w.heap.size + 1 := by omega
         have h4' := h4.far (p := ⟨x, 0, none⟩) (fun e => hx4 e.symm) (.slice A3 (i + (M - (i + 1))) c4)
         have h5' := h5.far (p := ⟨x, 0, none⟩) (fun e => hx5 e.symm) (.slice A3 (i + (M - (i + 1))) c4)
         have z0 : (w4.setCell ⟨x, 0, none⟩ (.slice A3 (i + (M - (i + 1))) c4)).cell? ⟨w.heap.size + 1, 0, none⟩ = some (.int .i64 s) := h5'.cell 0
         have z1 : (w4.setCell ⟨x, 0, none⟩ (.slice A3 (i + (M - (i + 1))) c4)).cell? ⟨w.heap.size + 1, 1, none⟩ = some (.int .u64 g) := h5'.cell 1
         have v0 : (w4.setCell ⟨x, 0, none⟩ (.slice A3 (i + (M - (i + 1))) c4)).cell? ⟨w.heap.size, 0, none⟩ = some (.int .i64 0) := h4'.cell 0
         have v1 : (w4.setCell ⟨x, 0, none⟩ (.slice A3 (i + (M - (i + 1))) c4)).cell? ⟨w.heap.size, 1, none⟩ = some (.int .u64 0) := h4'.cell 1
         have cx := hX4.cell 0
         simp at cx
         have y0 := h4'.free 0
         have y1 := h4'.free 1
         have HT := hide BT
         have HX4 := hide hX4
         have H4 := hide h4'
         clear hown2 hgrow2 hnil2 BT hX4 h4 h5 h4' h5' c3))
    have r6 := (H4.out.set 0 (.int .i64 s)).set 1 (.int .u64 g)
    have r0 : (((w4.setCell ⟨x, 0, none⟩ (.slice A3 (i + (M - (i + 1))) c4)).setCell ⟨w.heap.size, 0, none⟩ (.int .i64 s)).setCell ⟨w.heap.size, 1, none⟩ (.int .u64 g)).cell? ⟨w.heap.size, 0, none⟩ = some (.int .i64 s) := r6.cell 0
    have r1 : (((w4.setCell ⟨x, 0, none⟩ (.slice A3 (i + (M - (i + 1))) c4)).setCell ⟨w.heap.size, 0, none⟩ (.int .i64 s)).setCell ⟨w.heap.size, 1, none⟩ (.int .u64 g)).cell? ⟨w.heap.size, 1, none⟩ = some (.int .u64 g) := r6.cell 1
    refine bodyPost_ret (by simp [results, Try.results24, go_sem, r0, r1]; rfl) rfl ?_
    refine ⟨rfl, ⟨hNx, .slice A3 (i + (M - (i + 1))) c4, ((HX4.out.set 0 _).far (p := ⟨w.heap.size, 0, none⟩) hx4 _).far (p := ⟨w.heap.size, 1, none⟩) hx4 _, ?_⟩, (((Turned.of_below (S := fun k => k = x) HT.out).set (p := ⟨x, 0, none⟩) (fun _ => rfl) _).set (p := ⟨w.heap.size, 0, none⟩) (fun h => absurd h (by simp)) _).set (p := ⟨w.heap.size, 1, none⟩) (fun h => absurd h (by simp)) _⟩
    have hrow := row_mono (base' := N) (row_set (row_set (row_set HO4.out (p := ⟨x, 0, none⟩) (by simp; omega) (.slice A3 (i + (M - (i + 1))) c4)) (p := ⟨w.heap.size, 0, none⟩) (by simp) (.int .i64 s)) (p := ⟨w.heap.size, 1, none⟩) (by simp) (.int .u64 g)) (by omega)
    have he : hs.eraseIdx i = hs.take i ++ hs.drop (i + 1) := List.eraseIdx_eq_take_drop_succ ..
    have hlen : (hs.take i ++ hs.drop (i + 1)).length = i + (M - (i + 1)) := by rw [List.length_append, List.length_take, List.length_drop, Nat.min_eq_left (by rw [← HM.out]; omega), ← HM.out]
    rw [he, hlen, rowCells_append]
    simpa using hrow

end Go.Proofs.Ytagminbfboncoaa
