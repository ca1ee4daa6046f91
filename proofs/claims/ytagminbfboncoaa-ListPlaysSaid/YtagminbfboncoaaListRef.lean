import Derived.Test.YtagminbfboncoaaListRemW
import Derived.StillTailTactics
/-! Package list: the document's answer (wardenref15). -/
namespace Go.Proofs.Ytagminbfboncoaa
open Go.RowKit Go.Maps
set_option maxHeartbeats 4000000
set_option maxRecDepth 100000
set_option linter.unusedSimpArgs false
set_option linter.unusedVariables false

/-- The document's list at x: its row lies from N on. -/
def RefIs (N : Nat) (w : World) (x : Nat) (hs : List (Int × Int)) : Prop :=
  N ≤ x ∧ ∃ v, Has w x 40 #[v] ∧ w.ownsRow N 29 2 v hs.length (rowCells hs)

theorem RefIs.below {N : Nat} {w w' : World} {x : Nat} {hs : List (Int × Int)} (h : RefIs N w x hs) (t : Below w.heap.size w w') : RefIs N w' x hs := by
  obtain ⟨h1, v, h2, h3⟩ := h
  exact ⟨h1, v, h2.below t h2.lt, row_below h3 t⟩
theorem RefIs.turned {mb N : Nat} {w w' : World} {x : Nat} {hs : List (Int × Int)} (h : RefIs N w x hs) (t : Turned (ListMay mb w) w w') : RefIs N w' x hs := by
  obtain ⟨h1, v, h2, h3⟩ := h
  exact ⟨h1, v, (t.block _ h2.lt (h2.notMay (by decide) (by decide))).trans h2, row_turned h3 t⟩
theorem RefIs.form {N : Nat} {w : World} {x : Nat} {hs : List (Int × Int)} (h : RefIs N w x hs) : ∃ A c, Has w x 40 #[.slice A hs.length c] ∧ w.ownsRow N 29 2 (.slice A hs.length c) hs.length (rowCells hs) := by
  obtain ⟨h1, v, h2, h3⟩ := h
  obtain ⟨A, c, rfl⟩ := row_form h3
  exact ⟨A, c, h2, h3⟩

def atOf (hs : List (Int × Int)) (p : Int × Int) : Int := match hAt hs p with | some i => i | none => -1

theorem ref_at (N : Nat) (w : World) (x : Nat) (hs : List (Int × Int)) (h : RefIs N w x hs) (hsm : hs.length ≤ 100000) (p : Int × Int) :
    Calls Try.prog 17 #[.pointer (some ⟨x, 0, none⟩), .agg #[.int .i64 p.1, .int .u64 p.2]] w fun e w' => e = .returned (.int .i64 (atOf hs p)) ∧ Below w.heap.size w w' := by
  obtain ⟨s, g⟩ := p
  obtain ⟨M, hM⟩ : ∃ M, M = hs.length := ⟨_, rfl⟩
  have R0 := hide (h.below ((Below.refl _ w).alloc (Nat.le_refl _) (.cells #[.int .i64 s, .int .u64 g] 29)))
  have P0 := hide (Has.new w 29 #[.int .i64 s, .int .u64 g])
  have B0 := hide ((Below.refl _ w).alloc (Nat.le_refl _) (.cells #[.int .i64 s, .int .u64 g] 29))
  have HM := hide hM
  have hM1 : M ≤ 100000 := by omega
  clear h hM hsm
  go_enter Try.func17, Try.ntmps17
  go_wp2_with fail
  generalize w.alloc (.cells #[.int .i64 s, .int .u64 g] 29) = W0 at *
  go_loopw [5] (fun i wr => ∃ k : Nat, k ≤ M ∧ i = .int .i64 k ∧ (∀ j, j < k → hs[j]? ≠ some (s, g)) ∧ RefIs N wr x hs ∧ Has wr w.heap.size 29 #[.int .i64 s, .int .u64 g] ∧ Below w.heap.size w wr) (fun i _ => M - (intOf i).toNat)
  case atStart => exact ⟨0, Nat.zero_le _, rfl, fun j hj => by omega, R0.out, P0.out, B0.out⟩
  case round =>
    obtain ⟨k, hk, rfl, hno, hR, hP, hB⟩ := hrel
    obtain ⟨A, c, hx, hrow⟩ := hR.form
    rw [← HM.out] at hx hrow
    have hkw : IntKind.i64.wrap ((k : Int) + 1) = (k : Int) + 1 := wrap_i64 (by omega) (by omega)
    have c0 : wr.cell? ⟨x, 0, none⟩ = some (.slice A M c) := hx.cell 0
    have HR := hide hR
    have HP := hide hP
    have HB := hide hB
    by_cases hlt : k < M
    · have hdl : decide ((k : Int) < (M : Int)) = true := decide_eq_true (by omega)
      obtain ⟨q, hq⟩ : ∃ q, hs[k]? = some q := ⟨_, List.getElem?_eq_getElem (by rw [← HM.out]; exact hlt)⟩
      obtain ⟨g0, cap, hv0, q0, q1⟩ := row_at hrow hq
      injection hv0 with hz1 hz2 hz3
      subst hz1
      obtain ⟨s2, g2⟩ := q
      have p0 : wr.cell? ⟨w.heap.size, 0, none⟩ = some (.int .i64 s) := hP.cell 0
      have p1 : wr.cell? ⟨w.heap.size, 1, none⟩ = some (.int .u64 g) := hP.cell 1
      have hki : (k : Int) < (M : Int) := by omega
      have HQ := hide hq
      have HNO := hide hno
      simp only [] at q0 q1
      clear hz2 hz3 hx hrow hR hP hB hq hno
      by_cases he : s2 = s ∧ g2 = g
      · obtain ⟨rfl, rfl⟩ := he
        have hat : atOf hs (s2, g2) = k := by
          unfold atOf
          have : hAt hs (s2, g2) = some k := by
            unfold hAt
            rw [List.findIdx?_eq_some_iff_getElem]
            obtain ⟨hl, hh⟩ := List.getElem?_eq_some_iff.1 HQ.out
            refine ⟨hl, by simp [hh], fun j hj => ?_⟩
            have := HNO.out j hj
            rw [List.getElem?_eq_getElem (by omega)] at this
            simpa using this
          rw [this]
        have HAT := hide hat
        clear hat
        go_wp2_with fail
        refine region_tail 8 (by kernel_rfl) (by kernel_rfl) ?_
        intro wd hwd
        have c0 : wd.cell? ⟨x, 0, none⟩ = some (.slice (some ⟨g0, 0, none⟩) M c) := by rw [hwd]; exact c0
        have q0 : wd.cell? ⟨g0, k * 2, none⟩ = some (.int .i64 s2) := by rw [hwd]; exact q0
        have q1 : wd.cell? ⟨g0, k * 2 + 1, none⟩ = some (.int .u64 g2) := by rw [hwd]; exact q1
        have p0 : wd.cell? ⟨w.heap.size, 0, none⟩ = some (.int .i64 s2) := by rw [hwd]; exact p0
        have p1 : wd.cell? ⟨w.heap.size, 1, none⟩ = some (.int .u64 g2) := by rw [hwd]; exact p1
        have HR1 := hide (show RefIs N wd x hs by rw [hwd]; exact HR.out)
        have HP1 := hide (show Has wd w.heap.size 29 #[.int .i64 s2, .int .u64 g2] by rw [hwd]; exact HP.out)
        have HB1 := hide (show Below w.heap.size w wd by rw [hwd]; exact HB.out.drew)
        clear hwd
        simp only [List.take_succ_cons, List.take_zero, List.drop_succ_cons, List.drop_zero]
        iterate 8 still_step
        refine wpStill_nil ?_
        go_wp2_with fail
        go_returns
        exact ⟨by rw [HAT.out]; rfl, HB1.out⟩
      · have hne : ¬ (hs[k]? = some (s, g)) := by
          rw [HQ.out]
          intro e
          injection e with e
          injection e with e1 e2
          exact he ⟨e1, e2⟩
        have HNE := hide hne
        clear hne
        by_cases h1 : s2 = s
        · have h2 : ¬ g2 = g := fun e => he ⟨h1, e⟩
          subst h1
          clear he
          go_wp2_with fail
          refine region_tail 8 (by kernel_rfl) (by kernel_rfl) ?_
          intro wd hwd
          have c0 : wd.cell? ⟨x, 0, none⟩ = some (.slice (some ⟨g0, 0, none⟩) M c) := by rw [hwd]; exact c0
          have q0 : wd.cell? ⟨g0, k * 2, none⟩ = some (.int .i64 s2) := by rw [hwd]; exact q0
          have q1 : wd.cell? ⟨g0, k * 2 + 1, none⟩ = some (.int .u64 g2) := by rw [hwd]; exact q1
          have p0 : wd.cell? ⟨w.heap.size, 0, none⟩ = some (.int .i64 s2) := by rw [hwd]; exact p0
          have p1 : wd.cell? ⟨w.heap.size, 1, none⟩ = some (.int .u64 g) := by rw [hwd]; exact p1
          have HR1 := hide (show RefIs N wd x hs by rw [hwd]; exact HR.out)
          have HP1 := hide (show Has wd w.heap.size 29 #[.int .i64 s2, .int .u64 g] by rw [hwd]; exact HP.out)
          have HB1 := hide (show Below w.heap.size w wd by rw [hwd]; exact HB.out.drew)
          clear hwd
          simp only [List.take_succ_cons, List.take_zero, List.drop_succ_cons, List.drop_zero]
          iterate 8 still_step
          refine wpStill_nil ?_
          go_wp2_with fail
          go_roundw
          case rel =>
            refine ⟨k + 1, by omega, rfl, fun j hj => ?_, HR1.out, HP1.out, HB1.out⟩
            rcases Nat.lt_succ_iff_lt_or_eq.1 hj with h | rfl
            · exact HNO.out j h
            · exact HNE.out
          case measure => simp [intOf]; omega
        · clear he
          go_wp2_with fail
          refine region_tail 8 (by kernel_rfl) (by kernel_rfl) ?_
          intro wd hwd
          have c0 : wd.cell? ⟨x, 0, none⟩ = some (.slice (some ⟨g0, 0, none⟩) M c) := by rw [hwd]; exact c0
          have q0 : wd.cell? ⟨g0, k * 2, none⟩ = some (.int .i64 s2) := by rw [hwd]; exact q0
          have q1 : wd.cell? ⟨g0, k * 2 + 1, none⟩ = some (.int .u64 g2) := by rw [hwd]; exact q1
          have p0 : wd.cell? ⟨w.heap.size, 0, none⟩ = some (.int .i64 s) := by rw [hwd]; exact p0
          have p1 : wd.cell? ⟨w.heap.size, 1, none⟩ = some (.int .u64 g) := by rw [hwd]; exact p1
          have HR1 := hide (show RefIs N wd x hs by rw [hwd]; exact HR.out)
          have HP1 := hide (show Has wd w.heap.size 29 #[.int .i64 s, .int .u64 g] by rw [hwd]; exact HP.out)
          have HB1 := hide (show Below w.heap.size w wd by rw [hwd]; exact HB.out.drew)
          clear hwd
          simp only [List.take_succ_cons, List.take_zero, List.drop_succ_cons, List.drop_zero]
          iterate 8 still_step
          refine wpStill_nil ?_
          go_wp2_with fail
          go_roundw
          case rel =>
            refine ⟨k + 1, by omega, rfl, fun j hj => ?_, HR1.out, HP1.out, HB1.out⟩
            rcases Nat.lt_succ_iff_lt_or_eq.1 hj with h | rfl
            · exact HNO.out j h
            · exact HNE.out
          case measure => simp [intOf]; omega
    · have hdl : decide ((k : Int) < (M : Int)) = false := decide_eq_false (by omega)
      have hat : atOf hs (s, g) = -1 := by
        unfold atOf
        rw [hAt_not]
        intro hm
        obtain ⟨j, hj⟩ := List.getElem?_of_mem hm
        have hjl := (List.getElem?_eq_some_iff.1 hj).1
        exact hno j (by rw [← HM.out] at hjl; omega) hj
      have HAT := hide hat
      clear hx hrow hR hP hB hno hat
      go_wp2_with fail
      go_returns
      exact ⟨by rw [HAT.out]; rfl, HB.out⟩

theorem ref_end (N : Nat) (w : World) (x : Nat) (hs : List (Int × Int)) (h : RefIs N w x hs) (hsm : hs.length ≤ 100000) (front : Bool) :
    Calls Try.prog 19 #[.pointer (some ⟨x, 0, none⟩), .bool front] w fun e w' => e = .returned (.int .i64 (if hs = [] then -1 else (endAt hs front : Nat))) ∧ Below w.heap.size w w' := by
  obtain ⟨A, c, hx, hrow⟩ := h.form
  obtain ⟨M, hM⟩ : ∃ M, M = hs.length := ⟨_, rfl⟩
  have c0 : w.cell? ⟨x, 0, none⟩ = some (.slice A M c) := by rw [hM]; exact hx.cell 0
  have hm1 : IntKind.i64.wrap ((M : Int) - 1) = (M : Int) - 1 := wrap_i64 (by omega) (by omega)
  have hr : (if hs = [] then (-1 : Int) else (endAt hs front : Nat)) = if front = true ∧ 0 < M then 0 else (M : Int) - 1 := by
    unfold endAt
    cases hs with
    | nil => subst hM; cases front <;> rfl
    | cons a hs => subst hM; cases front <;> simp
  rw [hr]
  clear hr hM hx hrow h hsm
  cases front
  · rw [if_neg (by simp)]
    go_enter Try.func19, Try.ntmps19
    go_wp2_with fail
    go_returns
    exact ⟨rfl, by go_grown⟩
  · by_cases h0 : 0 < M
    · have hd : decide ((0 : Int) < (M : Int)) = true := decide_eq_true (by omega)
      rw [if_pos ⟨rfl, h0⟩]
      go_enter Try.func19, Try.ntmps19
      go_wp2_with fail
      go_returns
      exact ⟨rfl, by go_grown⟩
    · have hd : decide ((0 : Int) < (M : Int)) = false := decide_eq_false (by omega)
      rw [if_neg (fun e => h0 e.2)]
      go_enter Try.func19, Try.ntmps19
      go_wp2_with fail
      go_returns
      exact ⟨rfl, by go_grown⟩

theorem same_rows (w : World) (N1 N2 n : Nat) (A B : Option Addr) (c d : Nat) (hs : List (Int × Int)) (hn : n = hs.length) (hsm : hs.length ≤ 100000) (ha : w.ownsRow N1 29 2 (.slice A n c) n (rowCells hs)) (hb : w.ownsRow N2 29 2 (.slice B n d) n (rowCells hs)) :
    Calls Try.prog 15 #[.slice A n c, .slice B n d] w fun e w' => e = .returned (.bool true) ∧ Below w.heap.size w w' := by
  have HA := hide ha
  have HB := hide hb
  have HN := hide hn
  have hn1 : n ≤ 100000 := by omega
  clear ha hb hn hsm
  go_enter Try.func15, Try.ntmps15
  go_wp2_with fail
  go_loopw [5] (fun i wr => ∃ k : Nat, k ≤ n ∧ i = .int .i64 k ∧ Below w.heap.size w wr) (fun i _ => n - (intOf i).toNat)
  case atStart => exact ⟨0, Nat.zero_le _, rfl, Below.refl _ _⟩
  case round =>
    obtain ⟨k, hk, rfl, hB⟩ := hrel
    have HBW := hide hB
    have hkw : IntKind.i64.wrap ((k : Int) + 1) = (k : Int) + 1 := wrap_i64 (by omega) (by omega)
    by_cases hlt : k < n
    · have hdl : decide ((k : Int) < (n : Int)) = true := decide_eq_true (by omega)
      obtain ⟨q, hq⟩ : ∃ q, hs[k]? = some q := ⟨_, List.getElem?_eq_getElem (by rw [← HN.out]; exact hlt)⟩
      obtain ⟨g0, cap, hv0, q0, q1⟩ := row_at (row_below HA.out hB) hq
      obtain ⟨g1, cap1, hv1, r0, r1⟩ := row_at (row_below HB.out hB) hq
      injection hv0 with hz1 hz2 hz3
      injection hv1 with hz4 hz5 hz6
      subst hz1
      subst hz4
      obtain ⟨s, g⟩ := q
      simp only [] at q0 q1 r0 r1
      have hki : (k : Int) < (n : Int) := by omega
      clear hz2 hz3 hz5 hz6 hB hq
      go_wp2_with fail
      refine region_tail 8 (by kernel_rfl) (by kernel_rfl) ?_
      intro wd hwd
      have q0 : wd.cell? ⟨g0, k * 2, none⟩ = some (.int .i64 s) := by rw [hwd]; exact q0
      have q1 : wd.cell? ⟨g0, k * 2 + 1, none⟩ = some (.int .u64 g) := by rw [hwd]; exact q1
      have r0 : wd.cell? ⟨g1, k * 2, none⟩ = some (.int .i64 s) := by rw [hwd]; exact r0
      have r1 : wd.cell? ⟨g1, k * 2 + 1, none⟩ = some (.int .u64 g) := by rw [hwd]; exact r1
      have HB1 := hide (show Below w.heap.size w wd by rw [hwd]; exact HBW.out.drew)
      clear hwd
      simp only [List.take_succ_cons, List.take_zero, List.drop_succ_cons, List.drop_zero]
      iterate 8 still_step
      refine wpStill_nil ?_
      go_wp2_with fail
      go_roundw
      case rel => exact ⟨k + 1, by omega, rfl, HB1.out⟩
      case measure => simp [intOf]; omega
    · have hdl : decide ((k : Int) < (n : Int)) = false := decide_eq_false (by omega)
      clear hB
      go_wp2_with fail
      go_returns
      exact ⟨rfl, HBW.out⟩

end Go.Proofs.Ytagminbfboncoaa
