import Derived.Test.YtagminbfboncoaaListWorks
/-! Package list: no list. -/
namespace Go.Proofs.Ytagminbfboncoaa
open Go.RowKit Go.Maps Go.Shelf
attribute [local go_sem] Oper.semAt_some
set_option maxHeartbeats 2000000
set_option maxRecDepth 100000
set_option linter.unusedSimpArgs false
set_option linter.unusedVariables false

theorem no_end (w : World) (front : Bool) : Calls Try.prog 26 #[.pointer none, .bool front] w fun e w' => e = .returned (.pointer none) ∧ w = w' := by
  cases front
  all_goals
    go_enter Try.func26, Try.ntmps26
    go_wp2_with fail
    go_returns
    exact ⟨rfl, rfl⟩

theorem no_len (w : World) : Calls Try.prog 12 #[.pointer none] w fun e w' => e = .returned (.int .i64 0) ∧ Below w.heap.size w w' := by
  go_enter Try.func12, Try.ntmps12
  go_wp2_with fail
  go_returns
  exact ⟨rfl, Below.refl _ _⟩

theorem no_has (w : World) (s g : Int) : Calls Try.prog 9 #[.pointer none, .agg #[.int .i64 s, .int .u64 g]] w fun e w' => e = .returned (.bool false) ∧ Below w.heap.size w w' := by
  go_enter Try.func9, Try.ntmps9
  go_wp2_with fail
  obtain ⟨W0, hW0⟩ : ∃ W0, W0 = w.alloc (.cells #[.int .i64 s, .int .u64 g] 29) := ⟨_, rfl⟩
  have B0 : Hid (Below w.heap.size w W0) := by rw [hW0]; exact hide (by go_grown)
  have HX : Hid (Has W0 w.heap.size 29 #[.int .i64 s, .int .u64 g]) := by rw [hW0]; exact hide (Has.new w _ _)
  rw [← hW0]
  clear hW0
  refine wp_region_fixed [5, 6, 7, 8, 9, 10, 11, 12, 13, 14, 15]
    [.pointer none, .bool false, .bool false, undef, undef, undef, undef, undef, undef, undef, .bool false] (by kernel_rfl) (by simp) rfl (by kernel_rfl) (by kernel_rfl) (by kernel_rfl) (by simp) (by decide) ?_ ?_
  · refine ⟨?_, ?_, ?_, ?_, ?_, ?_, ?_, ?_, ?_, ?_, ?_, trivial⟩
    · exact .inl ⟨.inl rfl, fun a' W hB hold he K hK => fx_move (.tmp 0) _ (.inl rfl) (hold 0 (by decide)) (hK _ (Below.refl _ _))⟩
    · exact .inl ⟨.inl rfl, fun a' W hB hold he K hK => fx_bin .neq 24 24 (.tmp 5) (.const (.pointer none)) _ _ _ rfl (he ⟨0, .data⟩ (by simp) rfl) rfl (by kernel_rfl) (by kernel_rfl) (hK _ (Below.refl _ _))⟩
    · exact .inl ⟨.inl rfl, fun a' W hB hold he K hK => fx_move (.tmp 6) _ (.inl rfl) (he ⟨1, .data⟩ (by simp) rfl) (hK _ (Below.refl _ _))⟩
    · exact .inr ⟨rfl, rfl, 2, true, _, rfl, ⟨⟨2, .guard⟩, by simp, rfl, rfl⟩, rfl, rfl, by decide, by intro h; cases h⟩
    · exact .inr ⟨rfl, rfl, 2, true, _, rfl, ⟨⟨2, .guard⟩, by simp, rfl, rfl⟩, rfl, rfl, by decide, by intro h; cases h⟩
    · exact .inr ⟨rfl, rfl, 2, true, _, rfl, ⟨⟨2, .guard⟩, by simp, rfl, rfl⟩, rfl, rfl, by decide, by intro h; cases h⟩
    · exact .inr ⟨rfl, rfl, 2, true, _, rfl, ⟨⟨2, .guard⟩, by simp, rfl, rfl⟩, rfl, rfl, by decide, by intro h; cases h⟩
    · exact .inr ⟨rfl, rfl, 2, true, _, rfl, ⟨⟨2, .guard⟩, by simp, rfl, rfl⟩, rfl, rfl, by decide, by intro h; cases h⟩
    · exact .inr ⟨rfl, rfl, 2, true, _, rfl, ⟨⟨2, .guard⟩, by simp, rfl, rfl⟩, rfl, rfl, by decide, by intro h; cases h⟩
    · exact .inr ⟨rfl, rfl, 2, true, _, rfl, ⟨⟨2, .guard⟩, by simp, rfl, rfl⟩, rfl, rfl, by decide, by intro h; cases h⟩
    · exact .inl ⟨.inl rfl, fun a' W hB hold he K hK => fx_pick (.tmp 7) (.tmp 14) (.const (.bool false)) false _ rfl (he ⟨2, .data⟩ (by simp) rfl) rfl (hK _ (Below.refl _ _))⟩
  intro W1 hb
  have B1 := hide (below_on B0.out hb)
  clear hb
  simp only [putAll, List.length_cons, List.length_nil, Nat.reduceAdd, List.drop_succ_cons, List.drop_zero]
  go_wp2_with fail
  go_returns
  exact ⟨rfl, B1.out⟩

theorem no_push (w : World) (s g : Int) (front : Bool) : Calls Try.prog 10 #[.pointer none, .agg #[.int .i64 s, .int .u64 g], .bool front] w fun e w' => e = .returned (.int .i64 1) ∧ Below w.heap.size w w' := by
  go_enter Try.func10, Try.ntmps10
  go_wp2_with fail
  go_returns
  exact ⟨rfl, by go_grown⟩

theorem no_peek (w : World) (front : Bool) : Calls Try.prog 18 #[.pointer none, .bool front] w fun e w' => e = .returned (.tuple #[.agg #[.int .i64 0, .int .u64 0], .bool false]) ∧ Below w.heap.size w w' := by
  go_enter Try.func18, Try.ntmps18
  go_wp2_with fail
  refine (no_end _ front).mono ?_
  rintro e w1 ⟨rfl, rfl⟩
  go_wp2_with fail
  go_returns
  exact ⟨rfl, by go_grown⟩

theorem no_next (w : World) (s g : Int) : Calls Try.prog 20 #[.pointer none, .agg #[.int .i64 s, .int .u64 g]] w fun e w' => e = .returned (.tuple #[.agg #[.int .i64 0, .int .u64 0], .bool false]) ∧ Below w.heap.size w w' := by
  go_enter Try.func20, Try.ntmps20
  go_wp2_with fail
  obtain ⟨W0, hW0⟩ : ∃ W0, W0 = (w.alloc (.cells #[.int .i64 s, .int .u64 g] 29)).alloc (.cells #[.int .i64 0, .int .u64 0] 29) := ⟨_, rfl⟩
  have B0 : Hid (Below w.heap.size w W0) := by rw [hW0]; exact hide (by go_grown)
  have HX : Hid (Has W0 w.heap.size 29 #[.int .i64 s, .int .u64 g]) := by rw [hW0]; exact hide ((Has.new w _ _).alloc _)
  have HZ : Hid (Has W0 (w.heap.size + 1) 29 #[.int .i64 0, .int .u64 0]) := by rw [hW0]; exact hide (Has.last _ _ _ (by simp))
  rw [← hW0]
  clear hW0
  refine wp_region_fixed [6, 7, 8, 9, 10, 11, 12, 13, 14, 15, 16, 17, 18, 19, 20]
    [.pointer none, .agg #[.int .i64 s, .int .u64 g], .bool false, .bool true, .bool true, undef, undef, undef, undef, undef, undef, undef, undef, undef, undef] (by kernel_rfl) (by simp) rfl (by kernel_rfl) (by kernel_rfl) (by kernel_rfl) (by simp) (by decide) ?_ ?_
  · refine ⟨?_, ?_, ?_, ?_, ?_, ?_, ?_, ?_, ?_, ?_, ?_, ?_, ?_, ?_, ?_, trivial⟩
    · exact .inl ⟨.inl rfl, fun a' W hB hold he K hK => fx_move (.tmp 0) _ (.inl rfl) (hold 0 (by decide)) (hK _ (Below.refl _ _))⟩
    · exact .inl ⟨.inl rfl, fun a' W hB hold he K hK => wp_step_load 29 (.tmp 3) _ rfl _ (hold 3 (by decide)) (load_h W _ _ _ (HX.out.below hB HX.out.lt)) (hK _ (Below.refl _ _))⟩
    · exact .inl ⟨.inl rfl, fun a' W hB hold he K hK => (by have h0 : a'.eval (.tmp 6) = _ := (he ⟨0, .data⟩ (by simp) rfl); have h1 : a'.eval (.tmp 7) = _ := (he ⟨1, .data⟩ (by simp) rfl); exact wp_step_call 9 #[_, _] (by simp only [execOp, h0, h1]; simp [go_sem] <;> simp_all [Act.eval]) ((no_has W s g).mono (by rintro e1 w' ⟨rfl, hb⟩; exact ⟨_, rfl, hK _ hb⟩)))⟩
    · exact .inl ⟨.inl rfl, fun a' W hB hold he K hK => fx_not 4 (.tmp 8) _ rfl (he ⟨2, .data⟩ (by simp) rfl) (hK _ (Below.refl _ _))⟩
    · exact .inl ⟨.inl rfl, fun a' W hB hold he K hK => fx_move (.tmp 9) _ (.inl rfl) (he ⟨3, .data⟩ (by simp) rfl) (hK _ (Below.refl _ _))⟩
    · exact .inr ⟨rfl, rfl, 4, false, _, rfl, ⟨⟨4, .guard⟩, by simp, rfl, rfl⟩, rfl, rfl, by decide, by intro h; cases h⟩
    · exact .inr ⟨rfl, rfl, 4, false, _, rfl, ⟨⟨4, .guard⟩, by simp, rfl, rfl⟩, rfl, rfl, by decide, by intro h; cases h⟩
    · exact .inr ⟨rfl, rfl, 4, false, _, rfl, ⟨⟨4, .guard⟩, by simp, rfl, rfl⟩, rfl, rfl, by decide, by intro h; cases h⟩
    · exact .inr ⟨rfl, rfl, 4, false, _, rfl, ⟨⟨4, .guard⟩, by simp, rfl, rfl⟩, rfl, rfl, by decide, by intro h; cases h⟩
    · exact .inr ⟨rfl, rfl, 4, false, _, rfl, ⟨⟨4, .guard⟩, by simp, rfl, rfl⟩, rfl, rfl, by decide, by intro h; cases h⟩
    · exact .inr ⟨rfl, rfl, 4, false, _, rfl, ⟨⟨4, .guard⟩, by simp, rfl, rfl⟩, rfl, rfl, by decide, by intro h; cases h⟩
    · exact .inr ⟨rfl, rfl, 4, false, _, rfl, ⟨⟨4, .guard⟩, by simp, rfl, rfl⟩, rfl, rfl, by decide, by intro h; cases h⟩
    · exact .inr ⟨rfl, rfl, 4, false, _, rfl, ⟨⟨4, .guard⟩, by simp, rfl, rfl⟩, rfl, rfl, by decide, by intro h; cases h⟩
    · exact .inr ⟨rfl, rfl, 4, false, _, rfl, ⟨⟨4, .guard⟩, by simp, rfl, rfl⟩, rfl, rfl, by decide, by intro h; cases h⟩
    · exact .inr ⟨rfl, rfl, 4, false, _, rfl, ⟨⟨4, .guard⟩, by simp, rfl, rfl⟩, rfl, rfl, by decide, by intro h; cases h⟩
  intro W1 hb
  have B1 := hide (below_on B0.out hb)
  have Z1 := hide (HZ.out.below hb HZ.out.lt)
  clear hb
  simp only [putAll, List.length_cons, List.length_nil, Nat.reduceAdd, List.drop_succ_cons, List.drop_zero]
  have z0 : W1.cell? ⟨w.heap.size + 1, 0, none⟩ = some (.int .i64 0) := Z1.out.cell 0
  have z1 : W1.cell? ⟨w.heap.size + 1, 1, none⟩ = some (.int .u64 0) := Z1.out.cell 1
  have y0 := Z1.out.free 0
  have y1 := Z1.out.free 1
  go_wp2_with fail
  refine bodyPost_ret (by simp [results, Try.results20, go_sem, z0, z1]; rfl) rfl ?_
  exact ⟨rfl, (B1.out.setCell (p := ⟨w.heap.size + 1, 0, none⟩) (by simp) _).setCell (p := ⟨w.heap.size + 1, 1, none⟩) (by simp) _⟩

theorem no_remove (w : World) (s g : Int) : Calls Try.prog 22 #[.pointer none, .agg #[.int .i64 s, .int .u64 g]] w fun e w' => e = .returned (.bool false) ∧ Below w.heap.size w w' := by
  go_enter Try.func22, Try.ntmps22
  have h0 : (w.alloc (.cells #[.int .i64 s, .int .u64 g] 29)).cell? ⟨w.heap.size, 0, none⟩ = some (.int .i64 s) := (Has.new w _ _).cell 0
  have h1 : (w.alloc (.cells #[.int .i64 s, .int .u64 g] 29)).cell? ⟨w.heap.size, 1, none⟩ = some (.int .u64 g) := (Has.new w _ _).cell 1
  go_wp2_with fail
  clear h0 h1
  refine (no_has _ s g).mono ?_
  rintro e W0 ⟨rfl, hb⟩
  have B0 : Below w.heap.size w W0 := below_on (by go_grown) hb
  clear hb
  go_wp2_with fail
  go_returns
  exact ⟨rfl, B0⟩

theorem no_pop (w : World) (front : Bool) : Calls Try.prog 13 #[.pointer none, .bool front] w fun e w' => e = .returned (.tuple #[.agg #[.int .i64 0, .int .u64 0], .bool false]) ∧ Below w.heap.size w w' := by
  have HP := hide (fun W => no_peek W front)
  go_enter Try.func13, Try.ntmps13
  go_wp2_with fail
  refine (HP.out _).mono ?_
  rintro e W1 ⟨rfl, hb⟩
  have B1 := hide (below_on (w := w) (by go_grown) hb)
  have HR := hide ((Has.new w 29 #[.int .i64 0, .int .u64 0]).below hb (by simp))
  clear hb
  have c0 : W1.cell? ⟨w.heap.size, 0, none⟩ = some (.int .i64 0) := HR.out.cell 0
  have c1 : W1.cell? ⟨w.heap.size, 1, none⟩ = some (.int .u64 0) := HR.out.cell 1
  have f0 := HR.out.free 0
  have f1 := HR.out.free 1
  have hlt := HR.out.lt
  go_wp2_with fail
  have HF := ((HR.out.set 0 (.int .i64 0)).set 1 (.int .u64 0)).alloc (.cells #[.int .i64 0, .int .u64 0] 29)
  have r0 : (((W1.setCell ⟨w.heap.size, 0, none⟩ (.int .i64 0)).setCell ⟨w.heap.size, 1, none⟩ (.int .u64 0)).alloc (.cells #[.int .i64 0, .int .u64 0] 29)).cell? ⟨w.heap.size, 0, none⟩ = some (.int .i64 0) := HF.cell 0
  have r1 : (((W1.setCell ⟨w.heap.size, 0, none⟩ (.int .i64 0)).setCell ⟨w.heap.size, 1, none⟩ (.int .u64 0)).alloc (.cells #[.int .i64 0, .int .u64 0] 29)).cell? ⟨w.heap.size, 1, none⟩ = some (.int .u64 0) := HF.cell 1
  refine bodyPost_ret (by simp [results, Try.results13, go_sem, r0, r1]; rfl) rfl ?_
  exact ⟨rfl, ((B1.out.setCell (p := ⟨w.heap.size, 0, none⟩) (Nat.le_refl _) (.int .i64 0)).setCell (p := ⟨w.heap.size, 1, none⟩) (Nat.le_refl _) (.int .u64 0)).alloc (by simp [size_set]; exact B1.out.size) (.cells #[.int .i64 0, .int .u64 0] 29)⟩

theorem no_each1 (n : Nat) (w0 : World) (bc : Nat) (hcap : Has w0 bc 24 #[.pointer none]) :
    SeqOf Fence.wide n Try.prog 28 #[.pointer (some ⟨bc, 0, none⟩)] (fun x : Int × Int => #[hv x]) (fun pre x _ => False) (fun _ => KeepLinks) (fun xs _ => xs = []) (fun _ _ => True) w0 := by
  intro l' J Jx W hW hJ hJx hY h0
  refine callsIn_of_wp Try.func28 rfl trivial ?_ rfl
  simp only [Try.ntmps28, List.size_toArray, List.length_cons, List.length_nil, Nat.reduceAdd, Nat.reduceSub, Array.replicate_succ, Array.replicate_zero, List.push_toArray, List.append_toArray, List.nil_append, List.cons_append]
  have c0 : W.cell? ⟨bc, 0, none⟩ = some (.pointer none) := (hcap.below hW hcap.lt).cell 0
  gi_wp2
  refine ⟨trivial, fun h => absurd h (by simp [Fence.wide]), ?_⟩
  refine (callsIn_wide.2 (no_end W true)).mono ?_
  rintro e w1 ⟨rfl, rfl⟩
  clear c0
  gi_wp2
  gi_loopw [3] (fun p wr => p = .pointer none ∧ J [] wr) (fun _ _ => 0)
  case atStart => exact ⟨rfl, h0⟩
  case round =>
    obtain ⟨rfl, hJp⟩ := hrel
    gi_wp2
    go_end0
    exact ⟨⟨_, rfl⟩, .inl ⟨[], rfl, hJp⟩⟩

theorem no_all (w : World) :
    Calls Try.prog 16 #[.pointer none] w fun e w' => e = .returned (.slice none 0 0) ∧ Below w.heap.size w w' := by
  refine (callsIn_wide (n := 4)).1 ?_
  refine callsIn_of_wp_marks Try.func16 rfl trivial ?_ rfl
  simp only [Try.ntmps16, List.size_toArray, List.length_cons, List.length_nil, Nat.reduceAdd, Nat.reduceSub, Array.replicate_succ, Array.replicate_zero, List.push_toArray, List.append_toArray, List.nil_append, List.cons_append]
  gi_wp2
  refine ⟨trivial, ?_⟩
  obtain ⟨w2, hw2⟩ : ∃ w2, w2 = w.alloc (Obj.cells #[.slice none 0 0] 22) := ⟨_, rfl⟩
  have hO0 : Has w2 w.heap.size 22 #[.slice none 0 0] := by rw [hw2]; exact Has.new w _ _
  have hB0 : Below w.heap.size w w2 := by rw [hw2]; exact (Below.refl _ w).alloc (Nat.le_refl _) _
  have hs0 : w2.heap.size = w.heap.size + 1 := by rw [hw2]; simp
  rw [← hw2]
  clear hw2
  refine (callsIn_wide.2 (list_each w2 _)).mono ?_
  rintro e w1 ⟨bc, rfl, hbc, hcap, hb⟩
  gi_wp2
  have hO1 := hO0.below hb (by omega)
  have hB1 : Below w.heap.size w w1 := hB0.trans (hb.mono (by omega))
  have hz1' : w.heap.size + 1 ≤ w1.heap.size := by have := hb.size; omega
  refine wpIn_range_of rfl (by omega) (gf := 28) (lb := #[.pointer (some ⟨bc, 0, none⟩)]) rfl trivial (enters_of Try.func28 (by kernel_rfl) rfl)
    (no_each1 _ w1 bc hcap) (Below.refl _ _) (fun _ => rfl) (fun x => fun _ _ _ _ h _ _ => h) (fun _ _ _ _ h _ _ => h) (fun _ _ _ _ h _ _ => h) (fun x A C l o o' h1 h2 h3 h4 => keep_links_turn _ x A C l o o' h1 h2 h3 h4)
    (fun pre W => Has W w.heap.size 22 #[.slice none 0 0] ∧ Below w.heap.size w W ∧ w1.heap.size ≤ W.heap.size)
    (fun _ _ _ => False)
    (fun pre W W' h hg => ⟨h.1.grown hg, below_grow h.2.1 (by have := h.2.2; omega) hg, Nat.le_trans h.2.2 hg.size⟩)
    (fun pre W l o h hl ho => ⟨h.1.turn ho, below_turn h.2.1 (by omega), by simpa using h.2.2⟩)
    (fun _ _ _ _ h _ => h) (fun _ _ _ _ _ h _ _ => h)
    ⟨hO1, hB1, Nat.le_refl _⟩
    (fun x a1 W => True)
    (fun x a1 pre W l o h hl ho => h)
    (fun x => fun _ _ _ h _ => h) (fun x W W1 W3 hg h => fun k cs hk => h k cs (hk.grown hg)) ?assign ?body ?done ?stop
  case assign =>
    rintro l pre ⟨s, g⟩ W K hI hf hsz hK
    exact hf.elim
  case body =>
    rintro l pre ⟨s, g⟩ a1 W _ _ hf hsz
    exact hf.elim
  case done =>
    rintro D xs W hD rfl ⟨hO, hB, hz⟩ hK
    have c0 : W.cell? ⟨w.heap.size, 0, none⟩ = some (.slice none 0 0) := hO.cell 0
    have f0 := hO.free 0
    gi_wp2
    have hK' := (KeepsOthers.setCell W ⟨w.heap.size, 0, none⟩ (Value.slice none 0 0)).same D _ hK rfl
    have hO' := (hO.set 0 (Value.slice none 0 0)).turn (o := .deferred none) ⟨_, hK', rfl⟩
    have rr : ((W.setCell ⟨w.heap.size, 0, none⟩ (Value.slice none 0 0)).putObj D (.deferred none)).cell? ⟨w.heap.size, 0, none⟩ = some (.slice none 0 0) := hO'.cell 0
    have hB' := below_turn (o := .deferred none) (hB.setCell (p := ⟨w.heap.size, 0, none⟩) (Nat.le_refl _) (Value.slice none 0 0)) (l := D) (by omega)
    refine ⟨by simp, .inl ⟨_, _, rfl, run_takeDeferred hK', ?_⟩⟩
    exact ⟨_, by simp [results, Try.results16, go_sem, rr], rfl, hB'⟩
  case stop =>
    rintro D c pre W hD _ h hK
    exact h.elim

end Go.Proofs.Ytagminbfboncoaa
