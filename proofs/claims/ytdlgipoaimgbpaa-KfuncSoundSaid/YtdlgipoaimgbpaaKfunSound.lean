import Derived.Test.YtdlgipoaimgbpaaKfunSound1
import Derived.Test.YtdlgipoaimgbpaaKfunSound2
import Derived.Test.YtdlgipoaimgbpaaKfunSound3
/-! The law KfuncSound, walked. -/
namespace Go.Proofs.Ytdlgipoaimgbpaa
open Go.RowKit Go.Shelf
set_option maxHeartbeats 1000000
set_option maxRecDepth 100000
set_option linter.unusedSimpArgs false
set_option linter.unusedVariables false

theorem kf_any (w : World) (id : Int) : Calls Try.prog 16 #[.int .i32 id] w fun e w' => ∃ A n c g l u r, e = .returned (.tuple #[.agg #[.slice A n c, .int .u8 g, .bool l, .bool u], .bool r]) ∧ Below w.heap.size w w' :=
  (kf_of w id).mono fun e w' ⟨v, he, ha, hb⟩ => by
    obtain ⟨A, n, c, rfl⟩ := Arg.slice ha
    exact ⟨A, n, c, _, _, _, _, he, hb⟩

theorem ksound_none (w : World) (id other : Int) (h : ¬ (1 ≤ id ∧ id ≤ 17)) : Calls Try.prog 7 #[.int .i32 id, .int .i32 other] w (KPost w) := by
  have hK : kfK id = KF.none := by unfold kfK; rw [if_neg h]
  have HK := hide hK
  have HO := hide h
  clear hK h
  go_enter Try.func7, Try.ntmps7
  go_wp2_with fail
  refine (kf_out _ _ HO.out).mono ?_
  rintro e w1 ⟨v0, rfl, hA, hb⟩
  obtain ⟨A0, rfl⟩ := Arg.less1 hA
  have B1 := hide hb
  clear hA hb
  go_wp2_with fail
  refine (kf_any _ other).mono ?_
  rintro e w2 ⟨A2, n2, c2, g2, l2, u2, r2, rfl, hb⟩
  have T := below_on (w := w1) (by go_grown) hb
  have B2 := hide (below_on B1.out T)
  have CC := hide ((Has.new w1 37 #[.slice A0 0 0, .int .u8 0, .bool false, .bool false]).below hb (by simp))
  clear T hb
  go_wp2_with fail
  refine (kf_name_in _ id _ (congrArg KF.name HK.out)).mono ?_
  rintro e w3 ⟨rfl, hb⟩
  have T := below_on (w := w2) (by go_grown) hb
  have B3 := hide (below_on B2.out T)
  replace CC := hide (CC.out.below T CC.out.lt)
  clear T hb
  have c0 : w3.cell? ⟨w1.heap.size, 0, none⟩ = some (.slice A0 0 0) := CC.out.cell 0
  simp only [KF.none]
  go_wp2_with fail
  refine (kf_alive _).mono ?_
  rintro e w4 ⟨rfl, hb⟩
  have T := below_on (w := w3) (by go_grown) hb
  have B4 := hide (below_on B3.out T)
  clear T hb c0
  go_wp2_with fail
  go_returns
  exact ⟨rfl, B4.out⟩

theorem ksound_walk (w : World) (id : Int) (_ : (Lit.int .i32 id).wf = true) (other : Int) (_ : (Lit.int .i32 other).wf = true) : Calls Try.prog 7 #[.int .i32 id, .int .i32 other] w fun e w' => e = .returned (.bool true) ∧ Below w.heap.size w w' := by
  show Calls _ _ _ w (KPost w)
  by_cases h : 1 ≤ id ∧ id ≤ 17
  · have hc : id = 1 ∨ id = 2 ∨ id = 3 ∨ id = 4 ∨ id = 5 ∨ id = 6 ∨ id = 7 ∨ id = 8 ∨ id = 9 ∨ id = 10 ∨ id = 11 ∨ id = 12 ∨ id = 13 ∨ id = 14 ∨ id = 15 ∨ id = 16 ∨ id = 17 := by omega
    clear h
    by_cases ho : 1 ≤ other ∧ other ≤ 17
    · by_cases hs : other = id
      · rcases hc with rfl | rfl | rfl | rfl | rfl | rfl | rfl | rfl | rfl | rfl | rfl | rfl | rfl | rfl | rfl | rfl | rfl
        · exact ksound_same_1 w other hs
        · exact ksound_same_2 w other hs
        · exact ksound_same_3 w other hs
        · exact ksound_same_4 w other hs
        · exact ksound_same_5 w other hs
        · exact ksound_same_6 w other hs
        · exact ksound_same_7 w other hs
        · exact ksound_same_8 w other hs
        · exact ksound_same_9 w other hs
        · exact ksound_same_10 w other hs
        · exact ksound_same_11 w other hs
        · exact ksound_same_12 w other hs
        · exact ksound_same_13 w other hs
        · exact ksound_same_14 w other hs
        · exact ksound_same_15 w other hs
        · exact ksound_same_16 w other hs
        · exact ksound_same_17 w other hs
      · rcases hc with rfl | rfl | rfl | rfl | rfl | rfl | rfl | rfl | rfl | rfl | rfl | rfl | rfl | rfl | rfl | rfl | rfl
        · exact ksound_far_1 w other ho hs
        · exact ksound_far_2 w other ho hs
        · exact ksound_far_3 w other ho hs
        · exact ksound_far_4 w other ho hs
        · exact ksound_far_5 w other ho hs
        · exact ksound_far_6 w other ho hs
        · exact ksound_far_7 w other ho hs
        · exact ksound_far_8 w other ho hs
        · exact ksound_far_9 w other ho hs
        · exact ksound_far_10 w other ho hs
        · exact ksound_far_11 w other ho hs
        · exact ksound_far_12 w other ho hs
        · exact ksound_far_13 w other ho hs
        · exact ksound_far_14 w other ho hs
        · exact ksound_far_15 w other ho hs
        · exact ksound_far_16 w other ho hs
        · exact ksound_far_17 w other ho hs
    · rcases hc with rfl | rfl | rfl | rfl | rfl | rfl | rfl | rfl | rfl | rfl | rfl | rfl | rfl | rfl | rfl | rfl | rfl
      · exact ksound_out_1 w other ho
      · exact ksound_out_2 w other ho
      · exact ksound_out_3 w other ho
      · exact ksound_out_4 w other ho
      · exact ksound_out_5 w other ho
      · exact ksound_out_6 w other ho
      · exact ksound_out_7 w other ho
      · exact ksound_out_8 w other ho
      · exact ksound_out_9 w other ho
      · exact ksound_out_10 w other ho
      · exact ksound_out_11 w other ho
      · exact ksound_out_12 w other ho
      · exact ksound_out_13 w other ho
      · exact ksound_out_14 w other ho
      · exact ksound_out_15 w other ho
      · exact ksound_out_16 w other ho
      · exact ksound_out_17 w other ho
  · exact ksound_none w id other h

end Go.Proofs.Ytdlgipoaimgbpaa
