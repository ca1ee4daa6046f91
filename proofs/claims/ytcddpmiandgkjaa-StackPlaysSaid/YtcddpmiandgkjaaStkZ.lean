import Derived.Test.YtcddpmiandgkjaaStkY
/-! Package stack: the document's answer (wardenref23): Load; what its stores make of the row. -/
namespace Go.Proofs.Ytcddpmiandgkjaa
open Go.RowKit Go.Maps Go.Lib Go.Deep
set_option maxHeartbeats 2000000
set_option maxRecDepth 100000
set_option linter.unusedSimpArgs false
set_option linter.unusedVariables false

theorem load_else (σ : Stk) (a n : Int) (f m : Nat) (hf : a + 128 = f) (hm : n = m) (hi : stkIn a n = true) (h : ¬ ((σ.spAt a).no = false ∧ n = 8)) :
    σ.load a n = if (σ.read f m).2 = 0 then (.num (wordGet (σ.read f m).1 0 m).1, 0) else (.nil, (σ.read f m).2) := by
  subst hm
  unfold Stk.load
  rw [if_neg (by simp [hi]), if_neg h, hf]
  rfl

theorem set6 {α : Type} (a b c d e g : α) : ∀ (p : Nat) (l : List α), p + 6 ≤ l.length → ((((((l.set p a).set (p + 1) b).set (p + 2) c).set (p + 3) d).set (p + 4) e).set (p + 5) g) = l.take p ++ [a, b, c, d, e, g] ++ l.drop (p + 6)
  | 0, x0 :: x1 :: x2 :: x3 :: x4 :: x5 :: l, h => by simp
  | 0, [], h => by simp at h
  | 0, [_], h => by simp at h
  | 0, [_, _], h => by simp at h
  | 0, [_, _, _], h => by simp at h
  | 0, [_, _, _, _], h => by simp at h
  | 0, [_, _, _, _, _], h => by simp at h
  | p + 1, [], h => by simp at h
  | p + 1, x :: l, h => by
    have := set6 a b c d e g p l (by simp at h; omega)
    rw [show p + 1 + 1 = (p + 1) + 1 by rfl, show p + 1 + 2 = (p + 2) + 1 by omega, show p + 1 + 3 = (p + 3) + 1 by omega, show p + 1 + 4 = (p + 4) + 1 by omega, show p + 1 + 5 = (p + 5) + 1 by omega, show p + 1 + 6 = (p + 6) + 1 by omega]
    simp only [List.set_cons_succ, List.take_succ_cons, List.drop_succ_cons, List.cons_append]
    rw [this]

section
variable {w w' : World} {x : Nat} {σ : Stk} {S : Nat → Prop}
theorem Stk.rset_b (hb : σ.b.length = 128) {j : Nat} (hj : j < 128) (y : Int) : σ.rcells.setIfInBounds j (.int .u8 y) = ({ σ with b := σ.b.set j y } : Stk).rcells := by
  unfold Stk.rcells
  apply Array.toList_inj.1
  rw [Array.toList_setIfInBounds]
  simp only []
  rw [List.append_assoc, List.set_append_left _ _ (by simp [hb]; omega)]
  simp [List.map_set]
theorem Stk.rset_s (hb : σ.b.length = 128) (hs : σ.s.length = 128) {j : Nat} (hj : j < 128) (v : Bool) : σ.rcells.setIfInBounds (128 + j) (.bool v) = ({ σ with s := σ.s.set j v } : Stk).rcells := by
  unfold Stk.rcells
  apply Array.toList_inj.1
  rw [Array.toList_setIfInBounds]
  simp only []
  rw [List.append_assoc, List.set_append_right _ _ (by simp [hb]), List.set_append_left _ _ (by simp [hb, hs]; omega)]
  simp [hb, List.map_set]
theorem Stk.rset_l (h : σ.ok) {k : Nat} (hk : k < 16) (v : AV) :
    (((((σ.rcells.setIfInBounds (256 + k * 6) (.int .u8 v.plain.sort)).setIfInBounds (256 + k * 6 + 1) (.int .u64 v.plain.n)).setIfInBounds (256 + k * 6 + 2) (.int .i64 v.plain.a)).setIfInBounds (256 + k * 6 + 3) (.int .i64 v.plain.b)).setIfInBounds (256 + k * 6 + 4) (.int .i64 v.plain.off)).setIfInBounds (256 + k * 6 + 5) (.int .u64 v.plain.gen) = ({ σ with l := σ.l.set k v } : Stk).rcells := by
  unfold Stk.rcells
  apply Array.toList_inj.1
  simp only [Array.toList_setIfInBounds]
  have hl : (List.map (Value.int .u8) σ.b ++ List.map Value.bool σ.s).length = 256 := by simp [h.b, h.s]
  have hfl := flat_length _ (cells6 σ.l)
  rw [List.length_map, h.l] at hfl
  rw [set6 _ _ _ _ _ _ (256 + k * 6) _ (by rw [List.length_append, hl, hfl]; omega)]
  rw [List.take_append, List.drop_append, hl, List.take_of_length_le (by rw [hl]; omega), List.drop_of_length_le (by rw [hl]; omega), show 256 + k * 6 - 256 = 6 * k by omega, show 256 + k * 6 + 6 - 256 = 6 * k + 6 by omega, List.map_set, flat_set _ k v.plain.cells (by rw [List.length_map, h.l]; exact hk) (cells6 σ.l) rfl]
  simp [V22.cells]

theorem XtkIs.free (h : XtkIs w x σ) (j : Nat) : w.frozen? ⟨x, j, none⟩ = false := h.has.free j
theorem Stk.ok.setB (h : σ.ok) (j : Nat) (y : Int) (hy : 0 ≤ y ∧ y < 256) : ({ σ with b := σ.b.set j y } : Stk).ok :=
  ⟨by simp [h.b], h.s, h.l, fun z hz => by
    rcases List.mem_or_eq_of_mem_set hz with hz | rfl
    · exact h.range z hz
    · exact hy, h.is⟩
theorem XtkIs.setB (h : XtkIs w x σ) {j : Nat} (hj : j < 128) (y : Int) (hy : 0 ≤ y ∧ y < 256) : XtkIs (w.setCell ⟨x, j, none⟩ (.int .u8 y)) x { σ with b := σ.b.set j y } :=
  ⟨by rw [← Stk.rset_b h.ok.b hj y]; exact h.has.set _ _, h.ok.setB j y hy⟩
theorem XtkIs.setS (h : XtkIs w x σ) {j : Nat} (hj : j < 128) (v : Bool) : XtkIs (w.setCell ⟨x, 128 + j, none⟩ (.bool v)) x { σ with s := σ.s.set j v } :=
  ⟨by rw [← Stk.rset_s h.ok.b h.ok.s hj v]; exact h.has.set _ _, h.ok.setS j v⟩
theorem XtkIs.setL (h : XtkIs w x σ) {k : Nat} (hk : k < 16) (v : AV) (hv : v = .nil ∨ v.is = true) :
    XtkIs ((((((w.setCell ⟨x, 256 + k * 6, none⟩ (.int .u8 v.plain.sort)).setCell ⟨x, 256 + k * 6 + 1, none⟩ (.int .u64 v.plain.n)).setCell ⟨x, 256 + k * 6 + 2, none⟩ (.int .i64 v.plain.a)).setCell ⟨x, 256 + k * 6 + 3, none⟩ (.int .i64 v.plain.b)).setCell ⟨x, 256 + k * 6 + 4, none⟩ (.int .i64 v.plain.off)).setCell ⟨x, 256 + k * 6 + 5, none⟩ (.int .u64 v.plain.gen)) x { σ with l := σ.l.set k v } :=
  ⟨by rw [← Stk.rset_l h.ok hk v]; exact (((((h.has.set _ _).set _ _).set _ _).set _ _).set _ _).set _ _, h.ok.setL k v hv⟩
end

theorem xtk_load (w : World) (x : Nat) (σ : Stk) (h : XtkIs w x σ) (a n : Int) :
    Calls Try.prog 20 #[.pointer (some ⟨x, 0, none⟩), .int .i64 a, .int .i64 n] w fun e w' => e = .returned (.tuple #[(σ.load a n).1.plain.agg, .int .i64 (σ.load a n).2]) ∧ Below w.heap.size w w' := by
  obtain ⟨w0, hw0⟩ : ∃ w0, w0 = w.alloc (.cells #[.int .u8 0, .int .u64 0, .int .i64 0, .int .i64 0, .int .i64 0, .int .u64 0] 25) := ⟨_, rfl⟩
  have B0 := hide (show Below w.heap.size w w0 by rw [hw0]; exact (Below.refl _ w).alloc (Nat.le_refl _) _)
  have H := hide (h.below B0.out)
  have HR := hide (show Has w0 w.heap.size 25 #[.int .u8 0, .int .u64 0, .int .i64 0, .int .i64 0, .int .i64 0, .int .u64 0] by rw [hw0]; exact Has.new w _ _)
  have hlx := h.lt
  clear h
  have HW0 := hide hw0
  clear hw0
  cases hi : stkIn a n with
  | false =>
    have C2 := xtk_within w0 a n
    rw [hi] at C2
    have C2 := hide C2
    have hr : σ.load a n = (.nil, 230) := if_pos hi
    rw [hr]
    clear hr hlx
    go_enter Try.func20, Try.ntmps20
    go_wp2_with fail
    rw [← HW0.out]
    refine C2.out.mono ?_
    rintro e w1 ⟨rfl, rfl⟩
    have r0 : w0.cell? ⟨w.heap.size, 0, none⟩ = some (.int .u8 0) := HR.out.cell 0
    have f0 := HR.out.free 0
    have r1 : w0.cell? ⟨w.heap.size, 1, none⟩ = some (.int .u64 0) := HR.out.cell 1
    have f1 := HR.out.free 1
    have r2 : w0.cell? ⟨w.heap.size, 2, none⟩ = some (.int .i64 0) := HR.out.cell 2
    have f2 := HR.out.free 2
    have r3 : w0.cell? ⟨w.heap.size, 3, none⟩ = some (.int .i64 0) := HR.out.cell 3
    have f3 := HR.out.free 3
    have r4 : w0.cell? ⟨w.heap.size, 4, none⟩ = some (.int .i64 0) := HR.out.cell 4
    have f4 := HR.out.free 4
    have r5 : w0.cell? ⟨w.heap.size, 5, none⟩ = some (.int .u64 0) := HR.out.cell 5
    have f5 := HR.out.free 5
    go_wp2_with fail
    refine bodyPost_ret (by simp [results, Try.results20, go_sem, r0, r1, r2, r3, r4, r5]; rfl) rfl ?_
    exact ⟨rfl, ((((((B0.out.setCell (p := ⟨w.heap.size, 0, none⟩) (by simp) _).setCell (p := ⟨w.heap.size, 1, none⟩) (by simp) _).setCell (p := ⟨w.heap.size, 2, none⟩) (by simp) _).setCell (p := ⟨w.heap.size, 3, none⟩) (by simp) _).setCell (p := ⟨w.heap.size, 4, none⟩) (by simp) _).setCell (p := ⟨w.heap.size, 5, none⟩) (by simp) _)⟩
  | true =>
    obtain ⟨hn, ha0, ha1⟩ := load_in σ a n hi
    obtain ⟨f, hf⟩ : ∃ f : Nat, a + 128 = f := ⟨(a + 128).toNat, by omega⟩
    obtain ⟨m, rfl⟩ : ∃ m : Nat, n = m := ⟨n.toNat, by omega⟩
    have C2 := xtk_within w0 a m
    rw [hi] at C2
    have C2 := hide C2
    have hw2 : IntKind.i64.wrap (a + 128) = (f : Int) := by rw [wrap_i64 (by omega) (by omega)]; exact hf
    have HI := hide hi
    have HF := hide hf
    have hfm : f + m ≤ 128 := by omega
    have hfi : (f : Int) < 128 := by omega
    by_cases h8 : m = 8 ∧ f % 8 = 0
    · obtain ⟨rfl, hf8⟩ := h8
      have hf8i : (f : Int) % 8 = 0 := by omega
      have hdv : (8 : Int) ∣ (f : Int) := by omega
      have hsp : σ.spAt a = σ.slot (f / 8) := by
        unfold Stk.spAt
        rw [if_pos (by omega), show ((a + 128) / 8).toNat = f / 8 by omega]
      have C3 := xtk_spilled w0 x σ H.out (f / 8) (by omega)
      rw [show ((f / 8 : Nat) : Int) = (f : Int) / 8 by omega] at C3
      cases hno : (σ.slot (f / 8)).no with
      | false =>
        rw [hno] at C3
        have C3 := hide C3
        have hr : σ.load a (8 : Nat) = (σ.slot (f / 8), 0) := by
          unfold Stk.load
          rw [if_neg (by have h : stkIn a 8 = true := hi; rw [show ((8 : Nat) : Int) = 8 from rfl, h]; simp), hsp, if_pos (show (σ.slot (f / 8)).no = false ∧ ((8 : Nat) : Int) = 8 from ⟨hno, by omega⟩)]
        rw [hr]
        have hc := H.out.cslot (k := f / 8) (by omega)
        generalize (σ.slot (f / 8)) = v at *
        obtain ⟨pv, hpv⟩ : ∃ pv, pv = v.plain := ⟨_, rfl⟩
        rw [← hpv] at hc ⊢
        rw [Nat.mul_comm 6] at hc
        have c0 : w0.cell? ⟨x, 256 + f / 8 * 6, none⟩ = some (.int .u8 pv.sort) := hc 0 _ rfl
        have c1 : w0.cell? ⟨x, 256 + f / 8 * 6 + 1, none⟩ = some (.int .u64 pv.n) := hc 1 _ rfl
        have c2 : w0.cell? ⟨x, 256 + f / 8 * 6 + 2, none⟩ = some (.int .i64 pv.a) := hc 2 _ rfl
        have c3 : w0.cell? ⟨x, 256 + f / 8 * 6 + 3, none⟩ = some (.int .i64 pv.b) := hc 3 _ rfl
        have c4 : w0.cell? ⟨x, 256 + f / 8 * 6 + 4, none⟩ = some (.int .i64 pv.off) := hc 4 _ rfl
        have c5 : w0.cell? ⟨x, 256 + f / 8 * 6 + 5, none⟩ = some (.int .u64 pv.gen) := hc 5 _ rfl
        clear hr hsp hno hc hpv hi hf hn ha0 ha1
        go_enter Try.func20, Try.ntmps20
        go_wp2_with fail
        rw [← HW0.out]
        refine C2.out.mono ?_
        rintro e w1 ⟨rfl, rfl⟩
        go_wp2_with fail
        refine C3.out.mono ?_
        rintro e w1 ⟨rfl, rfl⟩
        have r0 : w0.cell? ⟨w.heap.size, 0, none⟩ = some (.int .u8 0) := HR.out.cell 0
        have f0 := HR.out.free 0
        have r1 : w0.cell? ⟨w.heap.size, 1, none⟩ = some (.int .u64 0) := HR.out.cell 1
        have f1 := HR.out.free 1
        have r2 : w0.cell? ⟨w.heap.size, 2, none⟩ = some (.int .i64 0) := HR.out.cell 2
        have f2 := HR.out.free 2
        have r3 : w0.cell? ⟨w.heap.size, 3, none⟩ = some (.int .i64 0) := HR.out.cell 3
        have f3 := HR.out.free 3
        have r4 : w0.cell? ⟨w.heap.size, 4, none⟩ = some (.int .i64 0) := HR.out.cell 4
        have f4 := HR.out.free 4
        have r5 : w0.cell? ⟨w.heap.size, 5, none⟩ = some (.int .u64 0) := HR.out.cell 5
        have f5 := HR.out.free 5
        go_wp2_with fail
        refine bodyPost_ret (by simp [results, Try.results20, go_sem, r0, r1, r2, r3, r4, r5]; rfl) rfl ?_
        exact ⟨rfl, ((((((B0.out.setCell (p := ⟨w.heap.size, 0, none⟩) (by simp) _).setCell (p := ⟨w.heap.size, 1, none⟩) (by simp) _).setCell (p := ⟨w.heap.size, 2, none⟩) (by simp) _).setCell (p := ⟨w.heap.size, 3, none⟩) (by simp) _).setCell (p := ⟨w.heap.size, 4, none⟩) (by simp) _).setCell (p := ⟨w.heap.size, 5, none⟩) (by simp) _)⟩
      | true =>
        rw [hno] at C3
        have C3 := hide C3
        have hr := load_else σ a 8 f 8 hf rfl hi (by rw [hsp, hno]; simp)
        have hr : σ.load a (8 : Nat) = _ := hr
        rw [hr]
        clear hr hsp hno hi hf hn ha0 ha1
        have C4 := hide (xtk_read w0 x σ H.out f 8 (by omega))
        have hsz := text_size σ H.out.ok f 8 (by omega)
        generalize σ.read f 8 = R at *
        obtain ⟨T, c⟩ := R
        simp only [] at C4 hsz ⊢
        have C5 := hide (fun W => ref_get T 0 8 (by omega) W)
        generalize wordGet T 0 8 = G at *
        obtain ⟨g, gc⟩ := G
        simp only [] at C5 ⊢
        by_cases hc : c = 0
        · subst hc
          go_enter Try.func20, Try.ntmps20
          go_wp2_with fail
          rw [← HW0.out]
          refine C2.out.mono ?_
          rintro e w1 ⟨rfl, rfl⟩
          go_wp2_with fail
          refine C3.out.mono ?_
          rintro e w1 ⟨rfl, rfl⟩
          go_wp2_with fail
          refine C4.out.mono ?_
          rintro e w2 ⟨rfl, hb⟩
          have HR := hide (HR.out.below hb HR.out.lt)
          have B0 := hide (below_on B0.out hb)
          clear hb
          go_wp2_with fail
          refine (C5.out _).mono ?_
          rintro e w3 ⟨rfl, rfl⟩
          have r0 : w2.cell? ⟨w.heap.size, 0, none⟩ = some (.int .u8 0) := HR.out.cell 0
          have f0 := HR.out.free 0
          have r1 : w2.cell? ⟨w.heap.size, 1, none⟩ = some (.int .u64 0) := HR.out.cell 1
          have f1 := HR.out.free 1
          have r2 : w2.cell? ⟨w.heap.size, 2, none⟩ = some (.int .i64 0) := HR.out.cell 2
          have f2 := HR.out.free 2
          have r3 : w2.cell? ⟨w.heap.size, 3, none⟩ = some (.int .i64 0) := HR.out.cell 3
          have f3 := HR.out.free 3
          have r4 : w2.cell? ⟨w.heap.size, 4, none⟩ = some (.int .i64 0) := HR.out.cell 4
          have f4 := HR.out.free 4
          have r5 : w2.cell? ⟨w.heap.size, 5, none⟩ = some (.int .u64 0) := HR.out.cell 5
          have f5 := HR.out.free 5
          go_wp2_with fail
          refine bodyPost_ret (by simp [results, Try.results20, go_sem, r0, r1, r2, r3, r4, r5]; rfl) rfl ?_
          exact ⟨rfl, ((((((B0.out.setCell (p := ⟨w.heap.size, 0, none⟩) (by simp) _).setCell (p := ⟨w.heap.size, 1, none⟩) (by simp) _).setCell (p := ⟨w.heap.size, 2, none⟩) (by simp) _).setCell (p := ⟨w.heap.size, 3, none⟩) (by simp) _).setCell (p := ⟨w.heap.size, 4, none⟩) (by simp) _).setCell (p := ⟨w.heap.size, 5, none⟩) (by simp) _)⟩
        · have hc2 : (c == 0) = false := beq_eq_false_iff_ne.2 hc
          have HC := hide hc
          clear hc
          go_enter Try.func20, Try.ntmps20
          go_wp2_with fail
          rw [← HW0.out]
          refine C2.out.mono ?_
          rintro e w1 ⟨rfl, rfl⟩
          go_wp2_with fail
          refine C3.out.mono ?_
          rintro e w1 ⟨rfl, rfl⟩
          go_wp2_with fail
          refine C4.out.mono ?_
          rintro e w2 ⟨rfl, hb⟩
          have HR := hide (HR.out.below hb HR.out.lt)
          have B0 := hide (below_on B0.out hb)
          clear hb
          have r0 : w2.cell? ⟨w.heap.size, 0, none⟩ = some (.int .u8 0) := HR.out.cell 0
          have f0 := HR.out.free 0
          have r1 : w2.cell? ⟨w.heap.size, 1, none⟩ = some (.int .u64 0) := HR.out.cell 1
          have f1 := HR.out.free 1
          have r2 : w2.cell? ⟨w.heap.size, 2, none⟩ = some (.int .i64 0) := HR.out.cell 2
          have f2 := HR.out.free 2
          have r3 : w2.cell? ⟨w.heap.size, 3, none⟩ = some (.int .i64 0) := HR.out.cell 3
          have f3 := HR.out.free 3
          have r4 : w2.cell? ⟨w.heap.size, 4, none⟩ = some (.int .i64 0) := HR.out.cell 4
          have f4 := HR.out.free 4
          have r5 : w2.cell? ⟨w.heap.size, 5, none⟩ = some (.int .u64 0) := HR.out.cell 5
          have f5 := HR.out.free 5
          go_wp2_with fail
          refine bodyPost_ret (by simp [results, Try.results20, go_sem, r0, r1, r2, r3, r4, r5]; rfl) rfl ?_
          exact ⟨by first | rfl | (rw [if_neg HC.out]; rfl), ((((((B0.out.setCell (p := ⟨w.heap.size, 0, none⟩) (by simp) _).setCell (p := ⟨w.heap.size, 1, none⟩) (by simp) _).setCell (p := ⟨w.heap.size, 2, none⟩) (by simp) _).setCell (p := ⟨w.heap.size, 3, none⟩) (by simp) _).setCell (p := ⟨w.heap.size, 4, none⟩) (by simp) _).setCell (p := ⟨w.heap.size, 5, none⟩) (by simp) _)⟩
    · have hr := load_else σ a m f m hf rfl hi (fun h => by
        have h1 : (m : Int) = 8 := h.2
        have h2 : ¬ f % 8 = 0 := fun e => h8 ⟨by omega, e⟩
        have h3 : σ.spAt a = .nil := by unfold Stk.spAt; rw [if_neg (by omega)]
        rw [h3] at h
        exact absurd h.1 (by decide))
      rw [hr]
      have h8i : ((m : Int) == 8) = false ∨ ((m : Int) == 8) = true ∧ m = 8 ∧ ((f : Int) % 8 == 0) = false ∧ ¬ (f : Int) % 8 = 0 ∧ ¬ (8 : Int) ∣ (f : Int) := by
        by_cases e : m = 8
        · refine .inr ⟨by simp [e], e, ?_, ?_, ?_⟩
          · rw [beq_eq_false_iff_ne]; omega
          · omega
          · omega
        · exact .inl (by rw [beq_eq_false_iff_ne]; omega)
      clear hr hi hf hn ha0 ha1 h8
      rcases h8i with h8 | ⟨h8, rfl, h9, h10, h11⟩
      · have h8d : decide ((m : Int) = 8) = false := by rw [beq_eq_false_iff_ne] at h8; exact decide_eq_false h8
        have h8n : ¬ m = 8 := by rw [beq_eq_false_iff_ne] at h8; omega
        have C4 := hide (xtk_read w0 x σ H.out f m (by omega))
        have hsz := text_size σ H.out.ok f m (by omega)
        generalize σ.read f m = R at *
        obtain ⟨T, c⟩ := R
        simp only [] at C4 hsz ⊢
        have C5 := hide (fun W => ref_get T 0 (m : Int) (by omega) W)
        generalize wordGet T 0 (m : Int) = G at *
        obtain ⟨g, gc⟩ := G
        simp only [] at C5 ⊢
        by_cases hc : c = 0
        · subst hc
          go_enter Try.func20, Try.ntmps20
          go_wp2_with fail
          rw [← HW0.out]
          refine C2.out.mono ?_
          rintro e w1 ⟨rfl, rfl⟩
          go_wp2_with fail
          refine C4.out.mono ?_
          rintro e w2 ⟨rfl, hb⟩
          have HR := hide (HR.out.below hb HR.out.lt)
          have B0 := hide (below_on B0.out hb)
          clear hb
          go_wp2_with fail
          refine (C5.out _).mono ?_
          rintro e w3 ⟨rfl, rfl⟩
          have r0 : w2.cell? ⟨w.heap.size, 0, none⟩ = some (.int .u8 0) := HR.out.cell 0
          have f0 := HR.out.free 0
          have r1 : w2.cell? ⟨w.heap.size, 1, none⟩ = some (.int .u64 0) := HR.out.cell 1
          have f1 := HR.out.free 1
          have r2 : w2.cell? ⟨w.heap.size, 2, none⟩ = some (.int .i64 0) := HR.out.cell 2
          have f2 := HR.out.free 2
          have r3 : w2.cell? ⟨w.heap.size, 3, none⟩ = some (.int .i64 0) := HR.out.cell 3
          have f3 := HR.out.free 3
          have r4 : w2.cell? ⟨w.heap.size, 4, none⟩ = some (.int .i64 0) := HR.out.cell 4
          have f4 := HR.out.free 4
          have r5 : w2.cell? ⟨w.heap.size, 5, none⟩ = some (.int .u64 0) := HR.out.cell 5
          have f5 := HR.out.free 5
          go_wp2_with fail
          refine bodyPost_ret (by simp [results, Try.results20, go_sem, r0, r1, r2, r3, r4, r5]; rfl) rfl ?_
          exact ⟨rfl, ((((((B0.out.setCell (p := ⟨w.heap.size, 0, none⟩) (by simp) _).setCell (p := ⟨w.heap.size, 1, none⟩) (by simp) _).setCell (p := ⟨w.heap.size, 2, none⟩) (by simp) _).setCell (p := ⟨w.heap.size, 3, none⟩) (by simp) _).setCell (p := ⟨w.heap.size, 4, none⟩) (by simp) _).setCell (p := ⟨w.heap.size, 5, none⟩) (by simp) _)⟩
        · have hc2 : (c == 0) = false := beq_eq_false_iff_ne.2 hc
          have HC := hide hc
          clear hc
          go_enter Try.func20, Try.ntmps20
          go_wp2_with fail
          rw [← HW0.out]
          refine C2.out.mono ?_
          rintro e w1 ⟨rfl, rfl⟩
          go_wp2_with fail
          refine C4.out.mono ?_
          rintro e w2 ⟨rfl, hb⟩
          have HR := hide (HR.out.below hb HR.out.lt)
          have B0 := hide (below_on B0.out hb)
          clear hb
          have r0 : w2.cell? ⟨w.heap.size, 0, none⟩ = some (.int .u8 0) := HR.out.cell 0
          have f0 := HR.out.free 0
          have r1 : w2.cell? ⟨w.heap.size, 1, none⟩ = some (.int .u64 0) := HR.out.cell 1
          have f1 := HR.out.free 1
          have r2 : w2.cell? ⟨w.heap.size, 2, none⟩ = some (.int .i64 0) := HR.out.cell 2
          have f2 := HR.out.free 2
          have r3 : w2.cell? ⟨w.heap.size, 3, none⟩ = some (.int .i64 0) := HR.out.cell 3
          have f3 := HR.out.free 3
          have r4 : w2.cell? ⟨w.heap.size, 4, none⟩ = some (.int .i64 0) := HR.out.cell 4
          have f4 := HR.out.free 4
          have r5 : w2.cell? ⟨w.heap.size, 5, none⟩ = some (.int .u64 0) := HR.out.cell 5
          have f5 := HR.out.free 5
          go_wp2_with fail
          refine bodyPost_ret (by simp [results, Try.results20, go_sem, r0, r1, r2, r3, r4, r5]; rfl) rfl ?_
          exact ⟨by first | rfl | (rw [if_neg HC.out]; rfl), ((((((B0.out.setCell (p := ⟨w.heap.size, 0, none⟩) (by simp) _).setCell (p := ⟨w.heap.size, 1, none⟩) (by simp) _).setCell (p := ⟨w.heap.size, 2, none⟩) (by simp) _).setCell (p := ⟨w.heap.size, 3, none⟩) (by simp) _).setCell (p := ⟨w.heap.size, 4, none⟩) (by simp) _).setCell (p := ⟨w.heap.size, 5, none⟩) (by simp) _)⟩
      · have h9d : decide ((f : Int) % 8 = 0) = false := decide_eq_false h10
        have C4 := hide (xtk_read w0 x σ H.out f 8 (by omega))
        have hsz := text_size σ H.out.ok f 8 (by omega)
        generalize σ.read f 8 = R at *
        obtain ⟨T, c⟩ := R
        simp only [] at C4 hsz ⊢
        have C5 := hide (fun W => ref_get T 0 8 (by omega) W)
        generalize wordGet T 0 8 = G at *
        obtain ⟨g, gc⟩ := G
        simp only [] at C5 ⊢
        by_cases hc : c = 0
        · subst hc
          go_enter Try.func20, Try.ntmps20
          go_wp2_with fail
          rw [← HW0.out]
          refine C2.out.mono ?_
          rintro e w1 ⟨rfl, rfl⟩
          go_wp2_with fail
          refine C4.out.mono ?_
          rintro e w2 ⟨rfl, hb⟩
          have HR := hide (HR.out.below hb HR.out.lt)
          have B0 := hide (below_on B0.out hb)
          clear hb
          go_wp2_with fail
          refine (C5.out _).mono ?_
          rintro e w3 ⟨rfl, rfl⟩
          have r0 : w2.cell? ⟨w.heap.size, 0, none⟩ = some (.int .u8 0) := HR.out.cell 0
          have f0 := HR.out.free 0
          have r1 : w2.cell? ⟨w.heap.size, 1, none⟩ = some (.int .u64 0) := HR.out.cell 1
          have f1 := HR.out.free 1
          have r2 : w2.cell? ⟨w.heap.size, 2, none⟩ = some (.int .i64 0) := HR.out.cell 2
          have f2 := HR.out.free 2
          have r3 : w2.cell? ⟨w.heap.size, 3, none⟩ = some (.int .i64 0) := HR.out.cell 3
          have f3 := HR.out.free 3
          have r4 : w2.cell? ⟨w.heap.size, 4, none⟩ = some (.int .i64 0) := HR.out.cell 4
          have f4 := HR.out.free 4
          have r5 : w2.cell? ⟨w.heap.size, 5, none⟩ = some (.int .u64 0) := HR.out.cell 5
          have f5 := HR.out.free 5
          go_wp2_with fail
          refine bodyPost_ret (by simp [results, Try.results20, go_sem, r0, r1, r2, r3, r4, r5]; rfl) rfl ?_
          exact ⟨rfl, ((((((B0.out.setCell (p := ⟨w.heap.size, 0, none⟩) (by simp) _).setCell (p := ⟨w.heap.size, 1, none⟩) (by simp) _).setCell (p := ⟨w.heap.size, 2, none⟩) (by simp) _).setCell (p := ⟨w.heap.size, 3, none⟩) (by simp) _).setCell (p := ⟨w.heap.size, 4, none⟩) (by simp) _).setCell (p := ⟨w.heap.size, 5, none⟩) (by simp) _)⟩
        · have hc2 : (c == 0) = false := beq_eq_false_iff_ne.2 hc
          have HC := hide hc
          clear hc
          go_enter Try.func20, Try.ntmps20
          go_wp2_with fail
          rw [← HW0.out]
          refine C2.out.mono ?_
          rintro e w1 ⟨rfl, rfl⟩
          go_wp2_with fail
          refine C4.out.mono ?_
          rintro e w2 ⟨rfl, hb⟩
          have HR := hide (HR.out.below hb HR.out.lt)
          have B0 := hide (below_on B0.out hb)
          clear hb
          have r0 : w2.cell? ⟨w.heap.size, 0, none⟩ = some (.int .u8 0) := HR.out.cell 0
          have f0 := HR.out.free 0
          have r1 : w2.cell? ⟨w.heap.size, 1, none⟩ = some (.int .u64 0) := HR.out.cell 1
          have f1 := HR.out.free 1
          have r2 : w2.cell? ⟨w.heap.size, 2, none⟩ = some (.int .i64 0) := HR.out.cell 2
          have f2 := HR.out.free 2
          have r3 : w2.cell? ⟨w.heap.size, 3, none⟩ = some (.int .i64 0) := HR.out.cell 3
          have f3 := HR.out.free 3
          have r4 : w2.cell? ⟨w.heap.size, 4, none⟩ = some (.int .i64 0) := HR.out.cell 4
          have f4 := HR.out.free 4
          have r5 : w2.cell? ⟨w.heap.size, 5, none⟩ = some (.int .u64 0) := HR.out.cell 5
          have f5 := HR.out.free 5
          go_wp2_with fail
          refine bodyPost_ret (by simp [results, Try.results20, go_sem, r0, r1, r2, r3, r4, r5]; rfl) rfl ?_
          exact ⟨by first | rfl | (rw [if_neg HC.out]; rfl), ((((((B0.out.setCell (p := ⟨w.heap.size, 0, none⟩) (by simp) _).setCell (p := ⟨w.heap.size, 1, none⟩) (by simp) _).setCell (p := ⟨w.heap.size, 2, none⟩) (by simp) _).setCell (p := ⟨w.heap.size, 3, none⟩) (by simp) _).setCell (p := ⟨w.heap.size, 4, none⟩) (by simp) _).setCell (p := ⟨w.heap.size, 5, none⟩) (by simp) _)⟩

end Go.Proofs.Ytcddpmiandgkjaa
