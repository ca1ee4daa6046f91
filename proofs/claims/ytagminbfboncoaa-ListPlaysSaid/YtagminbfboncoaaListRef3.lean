import Derived.Test.YtagminbfboncoaaListRef2
import Derived.Laws.AppendOwnNone
/-! Package list: the document's answer (wardenref15): Put, Push. -/
namespace Go.Proofs.Ytagminbfboncoaa
open Go.RowKit Go.Maps
set_option maxHeartbeats 4000000
set_option maxRecDepth 100000
set_option linter.unusedSimpArgs false
set_option linter.unusedVariables false

theorem ref_put_some (N : Nat) (w : World) (x : Nat) (hs : List (Int × Int)) (h : RefIs N w x hs) (hsm : hs.length ≤ 100000) (i : Nat) (hile : i ≤ hs.length) (s g : Int) (g0 c : Nat) (hx : Has w x 40 #[.slice (some ⟨g0, 0, none⟩) hs.length c]) (hrow : w.ownsRow N 29 2 (.slice (some ⟨g0, 0, none⟩) hs.length c) hs.length (rowCells hs)) :
    Calls Try.prog 27 #[.pointer (some ⟨x, 0, none⟩), .int .i64 i, .agg #[.int .i64 s, .int .u64 g]] w fun e w' => (∃ r, e = .returned r) ∧ RefIs N w' x (hs.take i ++ (s, g) :: hs.drop i) ∧ Turned (fun k => k = x) w w' := by
  obtain ⟨i0, hi, hz0, hz1, hz2⟩ := info_parts info_h
  obtain ⟨hnc, hcm, hcells⟩ := row_all hrow
  obtain ⟨M, hM⟩ : ∃ M, M = hs.length := ⟨_, rfl⟩
  rw [← hM] at hx hrow hnc hsm hile
  have hNx := h.1
  have hxl := hx.lt
  have hgl : g0 < w.heap.size := by
    obtain ⟨_, hh⟩ := hrow
    rcases hh with ⟨hh, _⟩ | ⟨g2, cap2, cur, h0, hg, hb, _⟩
    · cases hh
    · injection h0 with h1
      injection h1 with h2
      injection h2 with h3
      subst h3
      exact (show Has w g0 29 cur from hb).lt
  have B1e : Hid (Below w.heap.size w (w.alloc (.cells #[.int .i64 s, .int .u64 g] 29))) := hide (by go_grown)
  have HW4 : Hid (Has (w.alloc (.cells #[.int .i64 s, .int .u64 g] 29)) w.heap.size 29 #[.int .i64 s, .int .u64 g]) := hide (Has.new w _ _)
  have c1 : (w.alloc (.cells #[.int .i64 s, .int .u64 g] 29)).cell? ⟨x, 0, none⟩ = some (.slice (some ⟨g0, 0, none⟩) M c) := (hx.alloc _).cell 0
  have hii2 : (i : Int) ≤ (c : Int) := by omega
  have hii3 : i ≤ c := by omega
  have hii4 : (i : Int) ≤ (M : Int) := by omega
  have HX := hide hx
  have HROW := hide hrow
  have HCE := hide hcells
  have HM := hide hM
  have c0W := hide c1
  have cellsame : ∀ {W V : World}, Below w.heap.size w W → Below (w.heap.size + 1) W V → ∀ j, V.cell? ⟨g0, j, none⟩ = w.cell? ⟨g0, j, none⟩ := fun hb1 hb2 j => (cell_below hb2 (by omega)).trans (cell_below hb1 hgl)
  have hn1 : ∀ j u, (rowCells (hs.take i))[j]? = some u → (w.alloc (.cells #[.int .i64 s, .int .u64 g] 29)).cell? ((⟨g0, 0, none⟩ : Addr).add j) = some u := by
    intro j u hj
    rw [rowCells_take _ _ (by rw [← HM.out]; omega), List.getElem?_take] at hj
    split at hj
    · have := HCE.out j u hj
      rw [add_g, Nat.zero_add, cell_below B1e.out hgl]
      exact this
    · cases hj
  have hl1 : (rowCells (hs.take i)).length = i * 2 := by rw [rowCells_length, List.length_take, Nat.min_eq_left (by rw [← HM.out]; omega)]
  have hlt1 : (hs.take i).length = i := by rw [List.length_take, Nat.min_eq_left (by rw [← HM.out]; omega)]
  have HLT := hide hlt1
  clear hcells hx hrow hM h hlt1
  by_cases hic : c = i
  · have hMc : M = i := by omega
    subst hic
    subst hMc
    have HN2 : Hid (∀ W : World, (∀ j, W.cell? ⟨g0, j, none⟩ = w.cell? ⟨g0, j, none⟩) → ∀ j u, ([] : List Value)[j]? = some u → W.cell? ((⟨g0, 0, none⟩ : Addr).add j) = some u) := hide (fun W h j u hj => by simp at hj)
    go_enter Try.func27, Try.ntmps27
    go_wp2_with (first
      | (at_builtin
         refine wpList_append_own _ rfl _ _ 22 rfl (w.heap.size + 1) 29 i0 (.agg #[.int .i64 0, .int .u64 0]) 2 16 Try.underlying22 hi hz0 hz1 hz2 rfl (by decide) _ _ _ rfl (World.ownsRow_nil _ _ _ _) ⟨g0, 0, none⟩ M M (rowCells (hs.take M)) rfl hl1 hn1 (rowCells_one _) (by unfold maxLen; omega) (by omega) (by simp) ?_
         intro v' w3 hown hgrow hnil
         have HG3 := hide (show Below (w.heap.size + 1) (w.alloc (.cells #[.int .i64 s, .int .u64 g] 29)) w3 from ⟨hgrow.os, hgrow.tape, hgrow.output, hgrow.size, fun k hk => hgrow.block k (by simp; omega) (show ¬ some k = Value.ownBlock (.slice none 0 0) from by simp [Value.ownBlock])⟩)
         have hs3 : w.heap.size + 1 ≤ w3.heap.size := by have := HG3.out.size; simpa using this
         rw [Nat.zero_add] at hown
         obtain ⟨A2, c2, hvf⟩ := row_form hown
         subst hvf
         have HO3 := hide hown
         have h4 := HW4.out.below HG3.out (by omega)
         have HH4 := hide h4
         have e0 : w3.cell? ⟨w.heap.size, 0, none⟩ = some (.int .i64 s) := h4.cell 0
         have e1 : w3.cell? ⟨w.heap.size, 1, none⟩ = some (.int .u64 g) := h4.cell 1
         have hra := hown.alloc (.cells #[.int .i64 s, .int .u64 g] 29)
         have hnews := cells2_new w3 s g
         clear hown hgrow hnil c1 h4)
      | (at_builtin
         refine wpList_append_own _ rfl _ _ 22 rfl (w.heap.size + 1) 29 i0 (.agg #[.int .i64 0, .int .u64 0]) 2 16 Try.underlying22 hi hz0 hz1 hz2 rfl (by decide) _ _ _ rfl hra ⟨w3.heap.size, 0, none⟩ 1 1 [.int .i64 s, .int .u64 g] rfl rfl hnews (by simp [Value.oneCell']) (by unfold maxLen; omega) (by omega) (by simp; omega) ?_
         intro v2 w4 hown2 hgrow2 hnil2
         obtain ⟨A3, c4, hv3⟩ := row_form hown2
         subst hv3
         have HG4 := hide (show Below (w.heap.size + 1) w3 w4 from ((Below.refl _ w3).alloc hs3 (.cells #[.int .i64 s, .int .u64 g] 29)).trans ⟨hgrow2.os, hgrow2.tape, hgrow2.output, hgrow2.size, fun k hk => hgrow2.block k (by simp; omega) (fun e => by have := owns_base hra e.symm; omega)⟩)
         have HO4 := hide hown2
         have hs4 : w.heap.size + 1 ≤ w4.heap.size := Nat.le_trans hs3 HG4.out.size
         have c3 : w4.cell? ⟨x, 0, none⟩ = some (.slice (some ⟨g0, 0, none⟩) M M) := (cell_below (HG3.out.trans HG4.out) (by omega)).trans c0W.out
         have hn2 := HN2.out w4 (cellsame B1e.out (HG3.out.trans HG4.out))
         clear hown2 hgrow2 hnil2 hra hnews e0 e1)
      | (at_builtin
         refine wpList_append_own _ rfl _ _ 22 rfl (w.heap.size + 1) 29 i0 (.agg #[.int .i64 0, .int .u64 0]) 2 16 Try.underlying22 hi hz0 hz1 hz2 rfl (by decide) _ _ _ rfl HO4.out ⟨g0, 0, none⟩ (0) (0) [] rfl (by simp) hn2 (by simp) (by unfold maxLen; omega) (by omega) hs4 ?_
         intro v3 w5 hown3 hgrow3 hnil3
         obtain ⟨A4, c5, hv4⟩ := row_form hown3
         subst hv4
         have HO5 := hide hown3
         have HG5 := hide (show Below (w.heap.size + 1) w4 w5 from ⟨hgrow3.os, hgrow3.tape, hgrow3.output, hgrow3.size, fun k hk => hgrow3.block k (by omega) (fun e => by have := owns_base HO4.out e.symm; omega)⟩)
         have BT : Below w.heap.size w w5 := B1e.out.trans ((HG3.out.trans (HG4.out.trans HG5.out)).mono (by omega))
         have hX5 := HX.out.below BT hxl
         have fx := hX5.free 0
         have cx := hX5.cell 0
         simp at cx
         have HT := hide BT
         have HX5 := hide hX5
         clear hown3 hgrow3 hnil3 BT hX5 c3))
    go_returns
    have hrow := row_mono (base' := N) (row_set HO5.out (p := ⟨x, 0, none⟩) (by simp; omega) (.slice A4 (M + 1) c5)) (by omega)
    refine ⟨⟨_, rfl⟩, ⟨hNx, _, HX5.out.set 0 _, ?_⟩, (Turned.of_below (S := fun k => k = x) HT.out).set (p := ⟨x, 0, none⟩) (fun _ => rfl) _⟩
    have he : List.drop M hs = [] := List.drop_eq_nil_of_le (by rw [← HM.out]; exact Nat.le_refl _)
    have hlen : (hs.take M ++ [(s, g)]).length = M + 1 := by rw [List.length_append, HLT.out]; rfl
    rw [he, hlen, rowCells_append, show rowCells [(s, g)] = [.int .i64 s, .int .u64 g] from rfl]
    simpa using hrow
  · have hic2 : ¬ i = c := fun e => hic e.symm
    have hic3 : ¬ ((c : Int) = (i : Int)) := by omega
    have hic4 : ¬ ((i : Int) = (c : Int)) := by omega
    have hl2 : (rowCells (hs.drop i)).length = (M - i) * 2 := by rw [rowCells_length, List.length_drop, ← HM.out]
    have HN2 : Hid (∀ W : World, (∀ j, W.cell? ⟨g0, j, none⟩ = w.cell? ⟨g0, j, none⟩) → ∀ j u, (rowCells (hs.drop i))[j]? = some u → W.cell? ((⟨g0, i * 2, none⟩ : Addr).add j) = some u) := hide (fun W h j u hj => by
      rw [rowCells_drop _ _ (by rw [← HM.out]; exact hile), List.getElem?_drop] at hj
      rw [add_g, h]
      exact HCE.out _ _ hj)
    go_enter Try.func27, Try.ntmps27
    go_wp2_with (first
      | (at_builtin
         refine wpList_append_own _ rfl _ _ 22 rfl (w.heap.size + 1) 29 i0 (.agg #[.int .i64 0, .int .u64 0]) 2 16 Try.underlying22 hi hz0 hz1 hz2 rfl (by decide) _ _ _ rfl (World.ownsRow_nil _ _ _ _) ⟨g0, 0, none⟩ i c (rowCells (hs.take i)) rfl hl1 hn1 (rowCells_one _) (by unfold maxLen; omega) (by omega) (by simp) ?_
         intro v' w3 hown hgrow hnil
         have HG3 := hide (show Below (w.heap.size + 1) (w.alloc (.cells #[.int .i64 s, .int .u64 g] 29)) w3 from ⟨hgrow.os, hgrow.tape, hgrow.output, hgrow.size, fun k hk => hgrow.block k (by simp; omega) (show ¬ some k = Value.ownBlock (.slice none 0 0) from by simp [Value.ownBlock])⟩)
         have hs3 : w.heap.size + 1 ≤ w3.heap.size := by have := HG3.out.size; simpa using this
         rw [Nat.zero_add] at hown
         obtain ⟨A2, c2, hvf⟩ := row_form hown
         subst hvf
         have HO3 := hide hown
         have h4 := HW4.out.below HG3.out (by omega)
         have HH4 := hide h4
         have e0 : w3.cell? ⟨w.heap.size, 0, none⟩ = some (.int .i64 s) := h4.cell 0
         have e1 : w3.cell? ⟨w.heap.size, 1, none⟩ = some (.int .u64 g) := h4.cell 1
         have hra := hown.alloc (.cells #[.int .i64 s, .int .u64 g] 29)
         have hnews := cells2_new w3 s g
         clear hown hgrow hnil c1 h4)
      | (at_builtin
         refine wpList_append_own _ rfl _ _ 22 rfl (w.heap.size + 1) 29 i0 (.agg #[.int .i64 0, .int .u64 0]) 2 16 Try.underlying22 hi hz0 hz1 hz2 rfl (by decide) _ _ _ rfl hra ⟨w3.heap.size, 0, none⟩ 1 1 [.int .i64 s, .int .u64 g] rfl rfl hnews (by simp [Value.oneCell']) (by unfold maxLen; omega) (by omega) (by simp; omega) ?_
         intro v2 w4 hown2 hgrow2 hnil2
         obtain ⟨A3, c4, hv3⟩ := row_form hown2
         subst hv3
         have HG4 := hide (show Below (w.heap.size + 1) w3 w4 from ((Below.refl _ w3).alloc hs3 (.cells #[.int .i64 s, .int .u64 g] 29)).trans ⟨hgrow2.os, hgrow2.tape, hgrow2.output, hgrow2.size, fun k hk => hgrow2.block k (by simp; omega) (fun e => by have := owns_base hra e.symm; omega)⟩)
         have HO4 := hide hown2
         have hs4 : w.heap.size + 1 ≤ w4.heap.size := Nat.le_trans hs3 HG4.out.size
         have c3 : w4.cell? ⟨x, 0, none⟩ = some (.slice (some ⟨g0, 0, none⟩) M c) := (cell_below (HG3.out.trans HG4.out) (by omega)).trans c0W.out
         have hn2 := HN2.out w4 (cellsame B1e.out (HG3.out.trans HG4.out))
         clear hown2 hgrow2 hnil2 hra hnews e0 e1)
      | (at_builtin
         refine wpList_append_own _ rfl _ _ 22 rfl (w.heap.size + 1) 29 i0 (.agg #[.int .i64 0, .int .u64 0]) 2 16 Try.underlying22 hi hz0 hz1 hz2 rfl (by decide) _ _ _ rfl HO4.out ⟨g0, i * 2, none⟩ (M - i) (c - i) (rowCells (hs.drop i)) rfl hl2 hn2 (rowCells_one _) (by unfold maxLen; omega) (by omega) hs4 ?_
         intro v3 w5 hown3 hgrow3 hnil3
         obtain ⟨A4, c5, hv4⟩ := row_form hown3
         subst hv4
         have HO5 := hide hown3
         have HG5 := hide (show Below (w.heap.size + 1) w4 w5 from ⟨hgrow3.os, hgrow3.tape, hgrow3.output, hgrow3.size, fun k hk => hgrow3.block k (by omega) (fun e => by have := owns_base HO4.out e.symm; omega)⟩)
         have BT : Below w.heap.size w w5 := B1e.out.trans ((HG3.out.trans (HG4.out.trans HG5.out)).mono (by omega))
         have hX5 := HX.out.below BT hxl
         have fx := hX5.free 0
         have cx := hX5.cell 0
         simp at cx
         have HT := hide BT
         have HX5 := hide hX5
         clear hown3 hgrow3 hnil3 BT hX5 c3))
    go_returns
    have hrow := row_mono (base' := N) (row_set HO5.out (p := ⟨x, 0, none⟩) (by simp; omega) (.slice A4 (i + 1 + (M - i)) c5)) (by omega)
    refine ⟨⟨_, rfl⟩, ⟨hNx, _, HX5.out.set 0 _, ?_⟩, (Turned.of_below (S := fun k => k = x) HT.out).set (p := ⟨x, 0, none⟩) (fun _ => rfl) _⟩
    have hlen : (hs.take i ++ (s, g) :: hs.drop i).length = i + 1 + (M - i) := by
      rw [List.length_append, HLT.out, List.length_cons, List.length_drop, ← HM.out]
      omega
    rw [hlen, rowCells_append, show rowCells ((s, g) :: hs.drop i) = .int .i64 s :: .int .u64 g :: rowCells (hs.drop i) from rfl]
    simpa using hrow

theorem ref_put_nil (N : Nat) (w : World) (x : Nat) (hNx : N ≤ x) (s g : Int) (hx : Has w x 40 #[.slice none 0 0]) :
    Calls Try.prog 27 #[.pointer (some ⟨x, 0, none⟩), .int .i64 0, .agg #[.int .i64 s, .int .u64 g]] w fun e w' => (∃ r, e = .returned r) ∧ RefIs N w' x [(s, g)] ∧ Turned (fun k => k = x) w w' := by
  obtain ⟨i0, hi, hz0, hz1, hz2⟩ := info_parts info_h
  have hxl := hx.lt
  have B1e : Hid (Below w.heap.size w (w.alloc (.cells #[.int .i64 s, .int .u64 g] 29))) := hide (by go_grown)
  have c1 : (w.alloc (.cells #[.int .i64 s, .int .u64 g] 29)).cell? ⟨x, 0, none⟩ = some (.slice none 0 0) := (hx.alloc _).cell 0
  have hnews := cells2_new (w.alloc (.cells #[.int .i64 s, .int .u64 g] 29)) s g
  have HX := hide hx
  clear hx
  go_enter Try.func27, Try.ntmps27
  go_wp2_with (first
   | (at_builtin
      refine wpList_append_own_none rfl _ _ 22 rfl (w.heap.size + 1) 29 i0 2 Try.underlying22 hi _ _ _ rfl HO4.out rfl ?_
      skip)
   | (at_builtin
      refine wpList_append_own _ rfl _ _ 22 rfl (w.heap.size + 1) 29 i0 (.agg #[.int .i64 0, .int .u64 0]) 2 16 Try.underlying22 hi hz0 hz1 hz2 rfl (by decide) _ _ _ rfl (World.ownsRow_nil _ _ _ _) ⟨w.heap.size + 1, 0, none⟩ 1 1 [.int .i64 s, .int .u64 g] rfl rfl (by simpa using hnews) (by simp [Value.oneCell']) (by unfold maxLen; omega) (by omega) (by simp) ?_
      intro v2 w4 hown2 hgrow2 hnil2
      obtain ⟨A3, c4, hv3⟩ := row_form hown2
      subst hv3
      have HG4 := hide (show Below w.heap.size w w4 from (B1e.out.alloc B1e.out.size (.cells #[.int .i64 s, .int .u64 g] 29)).trans ⟨hgrow2.os, hgrow2.tape, hgrow2.output, hgrow2.size, fun k hk => hgrow2.block k (by simp; omega) (show ¬ some k = Value.ownBlock (.slice none 0 0) from by simp [Value.ownBlock])⟩)
      have HO4 := hide hown2
      have hX4 := HX.out.below HG4.out hxl
      have c3 : w4.cell? ⟨x, 0, none⟩ = some (.slice none 0 0) := hX4.cell 0
      have fx := hX4.free 0
      have HX4 := hide hX4
      have cx := hX4.cell 0
      simp at cx
      clear hown2 hgrow2 hnil2 hX4 hnews c1))
  go_returns
  have hrow := row_mono (base' := N) (row_set HO4.out (p := ⟨x, 0, none⟩) (by simp; omega) (.slice A3 1 c4)) (by omega)
  refine ⟨⟨_, rfl⟩, ⟨hNx, _, HX4.out.set 0 _, ?_⟩, (Turned.of_below (S := fun k => k = x) HG4.out).set (p := ⟨x, 0, none⟩) (fun _ => rfl) _⟩
  simpa [rowCells] using hrow

end Go.Proofs.Ytagminbfboncoaa
