import Derived.Test.YtagminbfboncoaaListTurned
/-! Package list: the law ListTurned, walked. -/
namespace Go.Proofs.Ytagminbfboncoaa
open Go.RowKit Go.Maps
set_option maxHeartbeats 4000000
set_option maxRecDepth 100000
set_option linter.unusedSimpArgs false
set_option linter.unusedVariables false

theorem cell_below {B : Nat} {w w' : World} (h : Below B w w') {cb i : Nat} (hc : cb < B) : w'.cell? ⟨cb, i, none⟩ = w.cell? ⟨cb, i, none⟩ := by
  simp only [World.cell?, h.block _ hc]

theorem row_form {W : World} {base n : Nat} {e : TypeId} {v : Value} {xs : List Value} (h : W.ownsRow base e 2 v n xs) : ∃ A c, v = .slice A n c := by
  obtain ⟨_, h⟩ := h
  rcases h with ⟨rfl, rfl⟩ | ⟨g, cap, cur, rfl, _⟩
  · exact ⟨_, _, rfl⟩
  · exact ⟨_, _, rfl⟩

theorem rest_zero (L : List (Int × Int)) (pop : Bool) : rest L pop 0 = L := by unfold rest; cases pop <;> simp
theorem rest_all (L : List (Int × Int)) (pop : Bool) : rest L pop L.length = [] := by unfold rest; cases pop <;> simp

theorem row_cell {W : World} {base n cap m g : Nat} {hs : List (Int × Int)} (h : W.ownsRow base 29 2 (.slice (some ⟨g, 0, none⟩) n cap) m (rowCells hs)) {j : Nat} {p : Int × Int} (hj : hs[j]? = some p) :
    W.cell? ⟨g, j * 2, none⟩ = some (.int .i64 p.1) ∧ W.cell? ⟨g, j * 2 + 1, none⟩ = some (.int .u64 p.2) := by
  obtain ⟨g', cap', e, h1, h2⟩ := row_at h hj
  injection e with e1
  injection e1 with e2
  injection e2 with e3
  subst e3
  exact ⟨h1, h2⟩

def Ins (w : World) (b mb : Nat) (push : Bool) (k : Nat) (ins : List (Int × Int)) (v : Value) (wr : World) : Prop :=
  ins.length ≤ k ∧ ListIs w.heap.size wr b mb (laid ins push) ∧ wr.ownsRow w.heap.size 29 2 v ins.length (rowCells ins) ∧ Below w.heap.size w wr

theorem list_turned_law (w : World) (A : Option Addr) (N c : Nat) (l : List S29) (hl : l.length = N) (_ : N ≤ 9223372036854775807) (hs : SliceOf w A 2 (l.map S29.cells)) (hok : ∀ x ∈ l, x.ok) (push pop : Bool) :
    Calls Try.prog 3 #[.slice A N c, .bool push, .bool pop] w fun e w' => e = .returned (.bool true) ∧ Below w.heap.size w w' := by
  obtain ⟨i0, hi, hz0, hz1, hz2⟩ := info_parts info_h
  by_cases h300 : 300 < N
  · have hd : decide ((300 : Int) < N) = true := by simp; omega
    clear hl hs hok
    go_enter Try.func3, Try.ntmps3
    go_wp2_with fail
    refine (list_works _).mono ?_
    rintro e w1 ⟨rfl, hb⟩
    go_wp2
    go_returns
    exact ⟨rfl, hb⟩
  have hd : decide ((300 : Int) < N) = false := by simp; omega
  have HL := hide hl
  have HS := hide hs
  have HO := hide hok
  clear hl hs hok
  go_enter Try.func3, Try.ntmps3
  go_wp2_with fail
  refine (list_new _).mono ?_
  rintro e w1 ⟨b, mb, rfl, L1, t1⟩
  have I0 := hide (show Ins w b mb push 0 [] (.slice none 0 0) w1 from ⟨Nat.le_refl _, by unfold laid; cases push <;> exact L1, World.ownsRow_nil _ _ _ _, t1⟩)
  clear L1 t1
  go_wp2_with fail
  go_loopw [8, 9] (fun v i wr => ∃ (k : Nat) (ins : List (Int × Int)), k ≤ N ∧ i = .int .i64 k ∧ Ins w b mb push k ins v wr)
    (fun _ i _ => N - (intOf i).toNat)
  case atStart => exact ⟨0, [], Nat.zero_le _, rfl, I0.out⟩
  case round =>
    obtain ⟨k, ins, hk, rfl, hI⟩ := hrel
    obtain ⟨A2, c2, rfl⟩ := row_form hI.2.2.1
    by_cases hlt : k < N
    · obtain ⟨y, hy⟩ : ∃ x, l[k]? = some x := ⟨_, List.getElem?_eq_getElem (by rw [HL.out]; exact hlt)⟩
      have hyo := HO.out y (List.mem_of_getElem? hy)
      obtain ⟨hik, hL, hrow, hB⟩ := hI
      obtain ⟨cb, off, rfl, hcb, hcells⟩ := HS.out.at_ hB (i := k) (cs := y.cells) (by rw [List.getElem?_map, hy]; rfl)
      obtain ⟨s, g⟩ := y
      have hpo : hOk (s, g) := ⟨hyo.1, hyo.2⟩
      have e0 : wr.cell? ⟨cb, off + k * 2, none⟩ = some (.int .i64 s) := hcells 0 _ rfl
      have e1 : wr.cell? ⟨cb, off + k * 2 + 1, none⟩ = some (.int .u64 g) := hcells 1 _ rfl
      have hkw : IntKind.i64.wrap ((k : Int) + 1) = (k : Int) + 1 := wrap_i64 (by omega) (by omega)
      have hdl : decide ((k : Int) < (N : Int)) = true := decide_eq_true (by omega)
      have G1 := list_has _ wr b mb _ hL (s, g) hpo
      have G2 := fun W (h : ListIs w.heap.size W b mb (laid ins push)) => list_push _ W b mb _ h (s, g) hpo push
      have HB := hide hB
      have HLL := hide hL
      have HR := hide hrow
      have HI := hide hik
      have HCB := hide hcb
      clear hy hyo hcells hL hrow hB hik hcb hpo
      by_cases hm : (s, g) ∈ ins
      · rw [hAt_mem, decide_eq_true (mem_laid.2 hm)] at G1
        simp only [pushed_there hm, if_pos (mem_laid.2 hm)] at G2
        have G1 := hide G1
        have G2 := hide G2
        have HM := hide hm
        clear hm
        go_wp2_with fail
        refine G1.out.mono ?_
        rintro e w2 ⟨rfl, t2⟩
        have e2 : w2.cell? ⟨cb, off + k * 2, none⟩ = some (.int .i64 s) := (cell_below t2 (Nat.lt_of_lt_of_le HCB.out HB.out.size)).trans e0
        have e3 : w2.cell? ⟨cb, off + k * 2 + 1, none⟩ = some (.int .u64 g) := (cell_below t2 (Nat.lt_of_lt_of_le HCB.out HB.out.size)).trans e1
        have R2 := hide (row_below HR.out t2)
        have L2 := hide (HLL.out.below t2)
        have B2 := hide (below_on HB.out t2)
        clear t2 e0 e1
        go_wp2_with fail
        refine (G2.out _ L2.out).mono ?_
        rintro e w3 ⟨rfl, L3, t3, q3⟩
        have e4 : w3.cell? ⟨cb, off + k * 2, none⟩ = some (.int .i64 s) := (cell_below t3 HCB.out).trans e2
        have e5 : w3.cell? ⟨cb, off + k * 2 + 1, none⟩ = some (.int .u64 g) := (cell_below t3 HCB.out).trans e3
        have R3 := hide (row_turned R2.out q3)
        have B3 := hide (B2.out.trans t3)
        have L3 := hide L3
        clear t3 q3 e2 e3
        go_wp2_with fail
        go_roundw
        case rel => exact ⟨k + 1, ins, by omega, rfl, by have := HI.out; omega, L3.out, R3.out, B3.out⟩
        case measure => simp [intOf]; omega
      · rw [hAt_mem, decide_eq_false (fun e => hm (mem_laid.1 e))] at G1
        simp only [pushed_laid hm, if_neg (fun e => hm (mem_laid.1 e))] at G2
        have G1 := hide G1
        have G2 := hide G2
        have HM := hide hm
        clear hm
        go_wp2_with fail
        refine G1.out.mono ?_
        rintro e w2 ⟨rfl, t2⟩
        have e2 : w2.cell? ⟨cb, off + k * 2, none⟩ = some (.int .i64 s) := (cell_below t2 (Nat.lt_of_lt_of_le HCB.out HB.out.size)).trans e0
        have e3 : w2.cell? ⟨cb, off + k * 2 + 1, none⟩ = some (.int .u64 g) := (cell_below t2 (Nat.lt_of_lt_of_le HCB.out HB.out.size)).trans e1
        have R2 := hide (row_below HR.out t2)
        have L2 := hide (HLL.out.below t2)
        have B2 := hide (below_on HB.out t2)
        clear t2 e0 e1
        go_wp2_with fail
        refine (G2.out _ L2.out).mono ?_
        rintro e w3 ⟨rfl, L3, t3, q3⟩
        have e4 : w3.cell? ⟨cb, off + k * 2, none⟩ = some (.int .i64 s) := (cell_below t3 HCB.out).trans e2
        have e5 : w3.cell? ⟨cb, off + k * 2 + 1, none⟩ = some (.int .u64 g) := (cell_below t3 HCB.out).trans e3
        have R3 := hide (row_turned R2.out q3)
        have B3 := hide (B2.out.trans t3)
        have L3 := hide L3
        clear t3 q3 e2 e3
        have HL3 := hide ((L3.out.below ((Below.refl _ w3).alloc (Nat.le_refl _) (.cells #[.int .i64 s, .int .u64 g] 29))))
        have hra := R3.out.alloc (.cells #[.int .i64 s, .int .u64 g] 29)
        have hnews := cells2_new w3 s g
        have hsz3 := B3.out.size
        have hi300 : ins.length ≤ 300 := by have := HI.out; omega
        go_wp2_with (
          at_builtin
          refine wpList_append_own _ rfl _ _ 22 rfl w.heap.size 29 i0 (.agg #[.int .i64 0, .int .u64 0]) 2 16 Try.underlying22 hi hz0 hz1 hz2 rfl (by decide) _ _ _ rfl hra ⟨w3.heap.size, 0, none⟩ 1 1 [.int .i64 s, .int .u64 g] rfl rfl hnews (by simp [Value.oneCell']) (by unfold maxLen; omega) (by omega) (by simp; omega) ?_
          intro v' w4 hown' hgrow hnil
          have HL4 := hide (HL3.out.grown_row hra hgrow)
          have HB4 := hide (show Below w.heap.size w w4 from (B3.out.alloc B3.out.size _).trans ⟨hgrow.os, hgrow.tape, hgrow.output, hgrow.size, fun k hk => hgrow.block k (by simp; omega) (fun e => by have := owns_base hra e.symm; omega)⟩)
          have HR4 := hide hown'
          clear hown' hgrow hnil hnews hra)
        go_roundw
        case rel =>
          refine ⟨k + 1, ins ++ [(s, g)], by omega, rfl, by rw [List.length_append, List.length_singleton]; have := HI.out; omega, HL4.out, ?_, HB4.out⟩
          rw [show (ins ++ [(s, g)]).length = ins.length + 1 by simp, show rowCells (ins ++ [(s, g)]) = rowCells ins ++ [.int .i64 s, .int .u64 g] by simp [rowCells]]
          exact HR4.out
        case measure => simp [intOf]; omega
    · have hdl : decide ((k : Int) < (N : Int)) = false := decide_eq_false (by omega)
      obtain ⟨hik, hL, hrow, hB⟩ := hI
      have hi300 : ins.length ≤ 300 := by omega
      have hnd := hL.nodup
      have G1 := list_through _ wr b mb _ hL (by rw [laid_length]; omega)
      rw [laid_length] at G1
      have HND := hide hnd
      have HB := hide hB
      have HLL := hide hL
      have HR := hide hrow
      have G1 := hide G1
      clear hik hL hrow hB hnd
      go_wp2_with fail
      refine G1.out.mono ?_
      rintro e w2 ⟨rfl, t2⟩
      have R2 := hide (row_below HR.out t2)
      have L2 := hide (HLL.out.below t2)
      have B2 := hide (below_on HB.out t2)
      have G2 := list_len_b _ w2 b mb _ L2.out
      rw [laid_length] at G2
      have G2 := hide G2
      clear t2
      go_wp2_with fail
      refine G2.out.mono ?_
      rintro e w3 ⟨rfl, t3⟩
      have R3 := hide (row_below R2.out t3)
      have L3 := hide (L2.out.below t3)
      have B3 := hide (below_on B2.out t3)
      obtain ⟨M, hM⟩ : ∃ M, M = ins.length := ⟨_, rfl⟩
      rw [← hM]
      have HM := hide hM
      have hM300 : M ≤ 300 := by omega
      clear t3 hi300 hM
      go_wp2_with fail
      go_loopw [12] (fun i wr => ∃ (k : Nat), k ≤ M ∧ i = .int .i64 k ∧ ListIs w.heap.size wr b mb (rest (laid ins push) pop k) ∧ wr.ownsRow w.heap.size 29 2 (.slice A2 M c2) ins.length (rowCells ins) ∧ Below w.heap.size w wr)
        (fun i _ => M - (intOf i).toNat)
      case atStart => exact ⟨0, Nat.zero_le _, rfl, by rw [rest_zero]; exact L3.out, by rw [HM.out]; exact R3.out, B3.out⟩
      case round =>
        obtain ⟨k, hk, rfl, hL, hrow, hB⟩ := hrel
        by_cases hlt : k < M
        · have hdl : decide ((k : Int) < (M : Int)) = true := decide_eq_true (by omega)
          have hkl : k < (laid ins push).length := by rw [laid_length, ← HM.out]; exact hlt
          obtain ⟨p, hp⟩ : ∃ p, ins[k]? = some p := ⟨_, List.getElem?_eq_getElem (by rw [← HM.out]; exact hlt)⟩
          obtain ⟨p2, hp2⟩ : ∃ p, ins[M - 1 - k]? = some p := ⟨_, List.getElem?_eq_getElem (by rw [← HM.out]; omega)⟩
          have G := list_pop _ wr b mb _ hL pop
          rw [rest_popped HND.out hkl, rest_end hkl, laid_length, rest_laid (by rw [← HM.out]; exact hlt), ← HM.out, hp, hp2] at G
          obtain ⟨g0, cap, hv0, q0, q1⟩ := row_at hrow hp
          injection hv0 with hz1 hz2 hz3
          subst hz1
          clear hz2 hz3
          obtain ⟨s1, g1⟩ := p
          obtain ⟨s2, g2⟩ := p2
          have hk63 : (k : Int) < (M : Int) := by omega
          have hkw : IntKind.i64.wrap ((k : Int) + 1) = (k : Int) + 1 := wrap_i64 (by omega) (by omega)
          have hm1 : IntKind.i64.wrap ((M : Int) - 1) = (M : Int) - 1 := wrap_i64 (by omega) (by omega)
          have hm2 : IntKind.i64.wrap ((M : Int) - 1 - k) = ((M - 1 - k : Nat) : Int) := by rw [wrap_i64 (by omega) (by omega)]; omega
          have hm3 : ((M : Int) - 1 - k) = ((M - 1 - k : Nat) : Int) := by omega
          have hm4 : M - 1 - k < M := by omega
          have HR4 := hide hrow
          have HB4 := hide hB
          by_cases hpp : push = pop
          ·
            rw [if_pos hpp] at G
            simp only [Option.getD, Option.isSome, hv] at G
            have G := hide G
            clear hL hrow hB q0 q1 hkl
            subst hpp
            go_wp2_with fail
            refine G.out.mono ?_
            rintro e w4 ⟨rfl, L4, t4, q4⟩
            have R4 := row_turned HR4.out q4
            have B4 := HB4.out.trans t4
            have HX := hide (((Has.new w4 29 #[.int .i64 s2, .int .u64 g2]).alloc (.cells #[.int .i64 s1, .int .u64 g1] 29)))
            have Ra := R4.alloc (.cells #[.int .i64 s2, .int .u64 g2] 29)
            obtain ⟨c0, c1⟩ := row_cell Ra hp
            have Rb := Ra.alloc (.cells #[.int .i64 s1, .int .u64 g1] 29)
            obtain ⟨c2_, c3⟩ := row_cell Rb hp2
            have L5 := hide ((L4.below ((Below.refl _ w4).alloc (Nat.le_refl _) (.cells #[.int .i64 s2, .int .u64 g2] 29))).below ((Below.refl _ _).alloc (Nat.le_refl _) (.cells #[.int .i64 s1, .int .u64 g1] 29)))
            have B5 := hide ((B4.alloc B4.size (.cells #[.int .i64 s2, .int .u64 g2] 29)).alloc (by have := B4.size; simp; omega) (.cells #[.int .i64 s1, .int .u64 g1] 29))
            have HY := hide (Has.last (w4.alloc (.cells #[.int .i64 s2, .int .u64 g2] 29)) 29 #[.int .i64 s1, .int .u64 g1] (k := w4.heap.size + 1) (by simp))
            have HRb := hide Rb
            have hw4 := B4.size
            have L4 := hide L4
            have R4 := hide R4
            have B4 := hide B4
            clear t4 q4 Ra Rb
            go_wp2_with fail
            go_roundw
            case rel =>
              exact ⟨k + 1, by omega, rfl, (L4.out.below ((Below.refl _ w4).alloc (Nat.le_refl _) (.cells #[.int .i64 s2, .int .u64 g2] 29))).below ((Below.refl _ _).alloc (Nat.le_refl _) (.cells #[.int .i64 s2, .int .u64 g2] 29)), (R4.out.alloc _).alloc _, (B4.out.alloc B4.out.size (.cells #[.int .i64 s2, .int .u64 g2] 29)).alloc (by have := B4.out.size; simp; omega) (.cells #[.int .i64 s2, .int .u64 g2] 29)⟩
            case measure => simp [intOf]; omega
          ·
            rw [if_neg hpp] at G
            simp only [Option.getD, Option.isSome, hv] at G
            have G := hide G
            clear hL hrow hB q0 q1 hkl
            have hpq : (push == pop) = false := by cases push <;> cases pop <;> simp_all
            have hpd : decide (push = pop) = false := decide_eq_false hpp
            go_wp2_with fail
            refine G.out.mono ?_
            rintro e w4 ⟨rfl, L4, t4, q4⟩
            have R4 := row_turned HR4.out q4
            have B4 := HB4.out.trans t4
            have HX := hide (((Has.new w4 29 #[.int .i64 s1, .int .u64 g1]).alloc (.cells #[.int .i64 s1, .int .u64 g1] 29)))
            have Ra := R4.alloc (.cells #[.int .i64 s1, .int .u64 g1] 29)
            obtain ⟨c0, c1⟩ := row_cell Ra hp
            have Rb := Ra.alloc (.cells #[.int .i64 s1, .int .u64 g1] 29)
            obtain ⟨c2_, c3⟩ := row_cell Rb hp2
            have L5 := hide ((L4.below ((Below.refl _ w4).alloc (Nat.le_refl _) (.cells #[.int .i64 s1, .int .u64 g1] 29))).below ((Below.refl _ _).alloc (Nat.le_refl _) (.cells #[.int .i64 s1, .int .u64 g1] 29)))
            have B5 := hide ((B4.alloc B4.size (.cells #[.int .i64 s1, .int .u64 g1] 29)).alloc (by have := B4.size; simp; omega) (.cells #[.int .i64 s1, .int .u64 g1] 29))
            have HY := hide (Has.last (w4.alloc (.cells #[.int .i64 s1, .int .u64 g1] 29)) 29 #[.int .i64 s1, .int .u64 g1] (k := w4.heap.size + 1) (by simp))
            have HRb := hide Rb
            have hw4 := B4.size
            have L4 := hide L4
            have R4 := hide R4
            have B4 := hide B4
            clear t4 q4 Ra Rb
            go_wp2_with fail
            go_roundw
            case rel =>
              exact ⟨k + 1, by omega, rfl, (L4.out.below ((Below.refl _ w4).alloc (Nat.le_refl _) (.cells #[.int .i64 s1, .int .u64 g1] 29))).below ((Below.refl _ _).alloc (Nat.le_refl _) (.cells #[.int .i64 s1, .int .u64 g1] 29)), (R4.out.alloc _).alloc _, (B4.out.alloc B4.out.size (.cells #[.int .i64 s1, .int .u64 g1] 29)).alloc (by have := B4.out.size; simp; omega) (.cells #[.int .i64 s1, .int .u64 g1] 29)⟩
            case measure => simp [intOf]; omega
        · have hdl : decide ((k : Int) < (M : Int)) = false := decide_eq_false (by omega)
          have hkM : k = M := by omega
          subst hkM
          have hr0 : rest (laid ins push) pop k = [] := by
            have h1 : k = (laid ins push).length := by rw [laid_length]; exact HM.out
            rw [h1]
            exact rest_all _ _
          rw [hr0] at hL
          have G2 := hide (list_len_b _ wr b mb _ hL)
          have HB := hide hB
          clear hL hrow hB hr0 hdl
          have hdl : decide ((k : Int) < (k : Int)) = false := decide_eq_false (by omega)
          go_wp2_with fail
          refine G2.out.mono ?_
          rintro e w4 ⟨rfl, t4⟩
          have B4 := hide (below_on HB.out t4)
          simp only [List.length_nil]
          clear t4
          go_wp2_with fail
          refine (list_works _).mono ?_
          rintro e w5 ⟨rfl, t5⟩
          have B5 := hide (below_on B4.out t5)
          clear t5
          go_wp2_with fail
          go_returns
          exact ⟨rfl, B5.out⟩

end Go.Proofs.Ytagminbfboncoaa
