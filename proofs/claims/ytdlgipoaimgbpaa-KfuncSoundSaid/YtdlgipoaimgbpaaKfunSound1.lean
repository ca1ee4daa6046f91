import Derived.Test.YtdlgipoaimgbpaaKfunFacts
/-! The law KfuncSound, walked. -/
namespace Go.Proofs.Ytdlgipoaimgbpaa
open Go.RowKit Go.Shelf
set_option maxHeartbeats 1000000
set_option maxRecDepth 100000
set_option linter.unusedSimpArgs false
set_option linter.unusedVariables false

theorem ksound_out_1 (w : World) (other : Int) (ho : ¬ (1 ≤ other ∧ other ≤ 17)) :
    Calls Try.prog 7 #[.int .i32 1, .int .i32 other] w (KPost w) := by
  have hK : kfK 1 = ⟨⟨#[108, 111, 111, 107, 117, 112]⟩, [1, 2], 2, false, false⟩ := by kernel_rfl
  have HO := hide ho
  clear ho
  have HK := hide hK
  clear hK
  go_enter Try.func7, Try.ntmps7
  go_wp2_with fail
  refine (kf_in _ 1 _ HK.out (by decide)).mono ?_
  rintro e w1 ⟨v0, rfl, hA, hb⟩
  obtain ⟨bq, hbq, rfl, hH⟩ := Arg.more hA
  have HH := hide hH
  clear hA hH
  have B1 := hide hb
  clear hb
  go_wp2_with fail
  refine (kf_out _ other HO.out).mono ?_
  rintro e w2 ⟨v2, rfl, hA, hb⟩
  have T := below_on (w := w1) (by go_grown) hb
  have B2 := hide (below_on B1.out T)
  replace HH := hide (HH.out.below T HH.out.lt)
  have CC := hide ((Has.new w1 37 #[.slice (some ⟨bq, 0, none⟩) 2 2, .int .u8 2, .bool false, .bool false]).below hb (by simp))
  clear T
  clear hb
  obtain ⟨A2, n2, c2, rfl⟩ := Arg.slice hA
  clear hA
  go_wp2_with fail
  refine (kf_name_in _ 1 _ (congrArg KF.name HK.out)).mono ?_
  rintro e w3 ⟨rfl, hb⟩
  have T := below_on (w := w2) (by go_grown) hb
  have B3 := hide (below_on B2.out T)
  replace HH := hide (HH.out.below T HH.out.lt)
  replace CC := hide (CC.out.below T CC.out.lt)
  clear T
  clear hb
  go_wp2_with fail
  refine (kf_named_in _ ⟨#[108, 111, 111, 107, 117, 112]⟩ 1 (by kernel_rfl) (by decide)).mono ?_
  rintro e w4 ⟨rfl, hb⟩
  have T := below_on (w := w3) (by go_grown) hb
  have B4 := hide (below_on B3.out T)
  replace HH := hide (HH.out.below T HH.out.lt)
  replace CC := hide (CC.out.below T CC.out.lt)
  clear T
  clear hb
  have c0 : w4.cell? ⟨w1.heap.size, 0, none⟩ = some (.slice (some ⟨bq, 0, none⟩) 2 2) := CC.out.cell 0
  have c1 : w4.cell? ⟨w1.heap.size, 1, none⟩ = some (.int .u8 2) := CC.out.cell 1
  have c2 : w4.cell? ⟨w1.heap.size, 2, none⟩ = some (.bool false) := CC.out.cell 2
  have c3 : w4.cell? ⟨w1.heap.size, 3, none⟩ = some (.bool false) := CC.out.cell 3
  have a0 : w4.cell? ⟨bq, 0, none⟩ = some (.int .u8 1) := HH.out.cell 0
  have a1 : w4.cell? ⟨bq, 1, none⟩ = some (.int .u8 2) := HH.out.cell 1
  go_wp2_with fail
  refine (kf_takes_in _ _ _ _ [1, 2] _ _ _ 0 false rfl ((slice_has (l := [1, 2]) HH.out).below (by go_grown)) (by decide) (by decide) (by decide)).mono ?_
  rintro e w5 ⟨rfl, hb⟩
  clear c0 c1 c2 c3 a0 a1
  have T := below_on (w := w4) (by go_grown) hb
  have B5 := hide (below_on B4.out T)
  replace CC := hide (CC.out.below T CC.out.lt)
  clear T hb
  have c0 : w5.cell? ⟨w1.heap.size, 0, none⟩ = some (.slice (some ⟨bq, 0, none⟩) 2 2) := CC.out.cell 0
  have c1 : w5.cell? ⟨w1.heap.size, 1, none⟩ = some (.int .u8 2) := CC.out.cell 1
  have c2 : w5.cell? ⟨w1.heap.size, 2, none⟩ = some (.bool false) := CC.out.cell 2
  have c3 : w5.cell? ⟨w1.heap.size, 3, none⟩ = some (.bool false) := CC.out.cell 3
  go_wp2_with fail
  refine (kf_alive _).mono ?_
  rintro e w6 ⟨rfl, hb⟩
  have T := below_on (w := w5) (by go_grown) hb
  have B6 := hide (below_on B5.out T)
  clear T hb c0 c1 c2 c3
  go_wp2_with fail
  go_returns
  exact ⟨rfl, B6.out⟩

theorem ksound_out_2 (w : World) (other : Int) (ho : ¬ (1 ≤ other ∧ other ≤ 17)) :
    Calls Try.prog 7 #[.int .i32 2, .int .i32 other] w (KPost w) := by
  have hK : kfK 2 = ⟨⟨#[100, 114, 97, 119]⟩, [], 1, false, false⟩ := by kernel_rfl
  have HO := hide ho
  clear ho
  have HK := hide hK
  clear hK
  go_enter Try.func7, Try.ntmps7
  go_wp2_with fail
  refine (kf_in _ 2 _ HK.out (by decide)).mono ?_
  rintro e w1 ⟨v0, rfl, hA, hb⟩
  obtain ⟨A0, rfl⟩ := Arg.less1 hA
  clear hA
  have B1 := hide hb
  clear hb
  go_wp2_with fail
  refine (kf_out _ other HO.out).mono ?_
  rintro e w2 ⟨v2, rfl, hA, hb⟩
  have T := below_on (w := w1) (by go_grown) hb
  have B2 := hide (below_on B1.out T)
  have CC := hide ((Has.new w1 37 #[.slice A0 0 0, .int .u8 1, .bool false, .bool false]).below hb (by simp))
  clear T
  clear hb
  obtain ⟨A2, n2, c2, rfl⟩ := Arg.slice hA
  clear hA
  go_wp2_with fail
  refine (kf_name_in _ 2 _ (congrArg KF.name HK.out)).mono ?_
  rintro e w3 ⟨rfl, hb⟩
  have T := below_on (w := w2) (by go_grown) hb
  have B3 := hide (below_on B2.out T)
  replace CC := hide (CC.out.below T CC.out.lt)
  clear T
  clear hb
  go_wp2_with fail
  refine (kf_named_in _ ⟨#[100, 114, 97, 119]⟩ 2 (by kernel_rfl) (by decide)).mono ?_
  rintro e w4 ⟨rfl, hb⟩
  have T := below_on (w := w3) (by go_grown) hb
  have B4 := hide (below_on B3.out T)
  replace CC := hide (CC.out.below T CC.out.lt)
  clear T
  clear hb
  have c0 : w4.cell? ⟨w1.heap.size, 0, none⟩ = some (.slice A0 0 0) := CC.out.cell 0
  have c1 : w4.cell? ⟨w1.heap.size, 1, none⟩ = some (.int .u8 1) := CC.out.cell 1
  have c2 : w4.cell? ⟨w1.heap.size, 2, none⟩ = some (.bool false) := CC.out.cell 2
  have c3 : w4.cell? ⟨w1.heap.size, 3, none⟩ = some (.bool false) := CC.out.cell 3
  go_wp2_with fail
  refine (kf_takes_in _ _ _ _ [] _ _ _ 0 false rfl (.inl rfl) (by decide) (by decide) (by decide)).mono ?_
  rintro e w5 ⟨rfl, hb⟩
  clear c0 c1 c2 c3
  have T := below_on (w := w4) (by go_grown) hb
  have B5 := hide (below_on B4.out T)
  replace CC := hide (CC.out.below T CC.out.lt)
  clear T hb
  have c0 : w5.cell? ⟨w1.heap.size, 0, none⟩ = some (.slice A0 0 0) := CC.out.cell 0
  have c1 : w5.cell? ⟨w1.heap.size, 1, none⟩ = some (.int .u8 1) := CC.out.cell 1
  have c2 : w5.cell? ⟨w1.heap.size, 2, none⟩ = some (.bool false) := CC.out.cell 2
  have c3 : w5.cell? ⟨w1.heap.size, 3, none⟩ = some (.bool false) := CC.out.cell 3
  go_wp2_with fail
  refine (kf_alive _).mono ?_
  rintro e w6 ⟨rfl, hb⟩
  have T := below_on (w := w5) (by go_grown) hb
  have B6 := hide (below_on B5.out T)
  clear T hb c0 c1 c2 c3
  go_wp2_with fail
  go_returns
  exact ⟨rfl, B6.out⟩

theorem ksound_out_3 (w : World) (other : Int) (ho : ¬ (1 ≤ other ∧ other ≤ 17)) :
    Calls Try.prog 7 #[.int .i32 3, .int .i32 other] w (KPost w) := by
  have hK : kfK 3 = ⟨⟨#[110, 101, 119]⟩, [3], 3, false, false⟩ := by kernel_rfl
  have HO := hide ho
  clear ho
  have HK := hide hK
  clear hK
  go_enter Try.func7, Try.ntmps7
  go_wp2_with fail
  refine (kf_in _ 3 _ HK.out (by decide)).mono ?_
  rintro e w1 ⟨v0, rfl, hA, hb⟩
  obtain ⟨bq, hbq, rfl, hH⟩ := Arg.more hA
  have HH := hide hH
  clear hA hH
  have B1 := hide hb
  clear hb
  go_wp2_with fail
  refine (kf_out _ other HO.out).mono ?_
  rintro e w2 ⟨v2, rfl, hA, hb⟩
  have T := below_on (w := w1) (by go_grown) hb
  have B2 := hide (below_on B1.out T)
  replace HH := hide (HH.out.below T HH.out.lt)
  have CC := hide ((Has.new w1 37 #[.slice (some ⟨bq, 0, none⟩) 1 1, .int .u8 3, .bool false, .bool false]).below hb (by simp))
  clear T
  clear hb
  obtain ⟨A2, n2, c2, rfl⟩ := Arg.slice hA
  clear hA
  go_wp2_with fail
  refine (kf_name_in _ 3 _ (congrArg KF.name HK.out)).mono ?_
  rintro e w3 ⟨rfl, hb⟩
  have T := below_on (w := w2) (by go_grown) hb
  have B3 := hide (below_on B2.out T)
  replace HH := hide (HH.out.below T HH.out.lt)
  replace CC := hide (CC.out.below T CC.out.lt)
  clear T
  clear hb
  go_wp2_with fail
  refine (kf_named_in _ ⟨#[110, 101, 119]⟩ 3 (by kernel_rfl) (by decide)).mono ?_
  rintro e w4 ⟨rfl, hb⟩
  have T := below_on (w := w3) (by go_grown) hb
  have B4 := hide (below_on B3.out T)
  replace HH := hide (HH.out.below T HH.out.lt)
  replace CC := hide (CC.out.below T CC.out.lt)
  clear T
  clear hb
  have c0 : w4.cell? ⟨w1.heap.size, 0, none⟩ = some (.slice (some ⟨bq, 0, none⟩) 1 1) := CC.out.cell 0
  have c1 : w4.cell? ⟨w1.heap.size, 1, none⟩ = some (.int .u8 3) := CC.out.cell 1
  have c2 : w4.cell? ⟨w1.heap.size, 2, none⟩ = some (.bool false) := CC.out.cell 2
  have c3 : w4.cell? ⟨w1.heap.size, 3, none⟩ = some (.bool false) := CC.out.cell 3
  have a0 : w4.cell? ⟨bq, 0, none⟩ = some (.int .u8 3) := HH.out.cell 0
  go_wp2_with fail
  refine (kf_takes_in _ _ _ _ [3] _ _ _ 0 false rfl ((slice_has (l := [3]) HH.out).below (by go_grown)) (by decide) (by decide) (by decide)).mono ?_
  rintro e w5 ⟨rfl, hb⟩
  clear c0 c1 c2 c3 a0
  have T := below_on (w := w4) (by go_grown) hb
  have B5 := hide (below_on B4.out T)
  replace CC := hide (CC.out.below T CC.out.lt)
  clear T hb
  have c0 : w5.cell? ⟨w1.heap.size, 0, none⟩ = some (.slice (some ⟨bq, 0, none⟩) 1 1) := CC.out.cell 0
  have c1 : w5.cell? ⟨w1.heap.size, 1, none⟩ = some (.int .u8 3) := CC.out.cell 1
  have c2 : w5.cell? ⟨w1.heap.size, 2, none⟩ = some (.bool false) := CC.out.cell 2
  have c3 : w5.cell? ⟨w1.heap.size, 3, none⟩ = some (.bool false) := CC.out.cell 3
  go_wp2_with fail
  refine (kf_alive _).mono ?_
  rintro e w6 ⟨rfl, hb⟩
  have T := below_on (w := w5) (by go_grown) hb
  have B6 := hide (below_on B5.out T)
  clear T hb c0 c1 c2 c3
  go_wp2_with fail
  go_returns
  exact ⟨rfl, B6.out⟩

theorem ksound_out_4 (w : World) (other : Int) (ho : ¬ (1 ≤ other ∧ other ≤ 17)) :
    Calls Try.prog 7 #[.int .i32 4, .int .i32 other] w (KPost w) := by
  have hK : kfK 4 = ⟨⟨#[100, 114, 111, 112]⟩, [4], 0, false, false⟩ := by kernel_rfl
  have HO := hide ho
  clear ho
  have HK := hide hK
  clear hK
  go_enter Try.func7, Try.ntmps7
  go_wp2_with fail
  refine (kf_in _ 4 _ HK.out (by decide)).mono ?_
  rintro e w1 ⟨v0, rfl, hA, hb⟩
  obtain ⟨bq, hbq, rfl, hH⟩ := Arg.more hA
  have HH := hide hH
  clear hA hH
  have B1 := hide hb
  clear hb
  go_wp2_with fail
  refine (kf_out _ other HO.out).mono ?_
  rintro e w2 ⟨v2, rfl, hA, hb⟩
  have T := below_on (w := w1) (by go_grown) hb
  have B2 := hide (below_on B1.out T)
  replace HH := hide (HH.out.below T HH.out.lt)
  have CC := hide ((Has.new w1 37 #[.slice (some ⟨bq, 0, none⟩) 1 1, .int .u8 0, .bool false, .bool false]).below hb (by simp))
  clear T
  clear hb
  obtain ⟨A2, n2, c2, rfl⟩ := Arg.slice hA
  clear hA
  go_wp2_with fail
  refine (kf_name_in _ 4 _ (congrArg KF.name HK.out)).mono ?_
  rintro e w3 ⟨rfl, hb⟩
  have T := below_on (w := w2) (by go_grown) hb
  have B3 := hide (below_on B2.out T)
  replace HH := hide (HH.out.below T HH.out.lt)
  replace CC := hide (CC.out.below T CC.out.lt)
  clear T
  clear hb
  go_wp2_with fail
  refine (kf_named_in _ ⟨#[100, 114, 111, 112]⟩ 4 (by kernel_rfl) (by decide)).mono ?_
  rintro e w4 ⟨rfl, hb⟩
  have T := below_on (w := w3) (by go_grown) hb
  have B4 := hide (below_on B3.out T)
  replace HH := hide (HH.out.below T HH.out.lt)
  replace CC := hide (CC.out.below T CC.out.lt)
  clear T
  clear hb
  have c0 : w4.cell? ⟨w1.heap.size, 0, none⟩ = some (.slice (some ⟨bq, 0, none⟩) 1 1) := CC.out.cell 0
  have c1 : w4.cell? ⟨w1.heap.size, 1, none⟩ = some (.int .u8 0) := CC.out.cell 1
  have c2 : w4.cell? ⟨w1.heap.size, 2, none⟩ = some (.bool false) := CC.out.cell 2
  have c3 : w4.cell? ⟨w1.heap.size, 3, none⟩ = some (.bool false) := CC.out.cell 3
  have a0 : w4.cell? ⟨bq, 0, none⟩ = some (.int .u8 4) := HH.out.cell 0
  go_wp2_with fail
  refine (kf_takes_in _ _ _ _ [4] _ _ _ 0 true rfl ((slice_has (l := [4]) HH.out).below (by go_grown)) (by decide) (by decide) (by decide)).mono ?_
  rintro e w5 ⟨rfl, hb⟩
  clear c0 c1 c2 c3 a0
  have T := below_on (w := w4) (by go_grown) hb
  have B5 := hide (below_on B4.out T)
  replace CC := hide (CC.out.below T CC.out.lt)
  clear T hb
  have c0 : w5.cell? ⟨w1.heap.size, 0, none⟩ = some (.slice (some ⟨bq, 0, none⟩) 1 1) := CC.out.cell 0
  have c1 : w5.cell? ⟨w1.heap.size, 1, none⟩ = some (.int .u8 0) := CC.out.cell 1
  have c2 : w5.cell? ⟨w1.heap.size, 2, none⟩ = some (.bool false) := CC.out.cell 2
  have c3 : w5.cell? ⟨w1.heap.size, 3, none⟩ = some (.bool false) := CC.out.cell 3
  go_wp2_with fail
  refine (kf_alive _).mono ?_
  rintro e w6 ⟨rfl, hb⟩
  have T := below_on (w := w5) (by go_grown) hb
  have B6 := hide (below_on B5.out T)
  clear T hb c0 c1 c2 c3
  go_wp2_with fail
  go_returns
  exact ⟨rfl, B6.out⟩

theorem ksound_out_5 (w : World) (other : Int) (ho : ¬ (1 ≤ other ∧ other ≤ 17)) :
    Calls Try.prog 7 #[.int .i32 5, .int .i32 other] w (KPost w) := by
  have hK : kfK 5 = ⟨⟨#[97, 99, 113, 117, 105, 114, 101]⟩, [5], 4, false, true⟩ := by kernel_rfl
  have HO := hide ho
  clear ho
  have HK := hide hK
  clear hK
  go_enter Try.func7, Try.ntmps7
  go_wp2_with fail
  refine (kf_in _ 5 _ HK.out (by decide)).mono ?_
  rintro e w1 ⟨v0, rfl, hA, hb⟩
  obtain ⟨bq, hbq, rfl, hH⟩ := Arg.more hA
  have HH := hide hH
  clear hA hH
  have B1 := hide hb
  clear hb
  go_wp2_with fail
  refine (kf_out _ other HO.out).mono ?_
  rintro e w2 ⟨v2, rfl, hA, hb⟩
  have T := below_on (w := w1) (by go_grown) hb
  have B2 := hide (below_on B1.out T)
  replace HH := hide (HH.out.below T HH.out.lt)
  have CC := hide ((Has.new w1 37 #[.slice (some ⟨bq, 0, none⟩) 1 1, .int .u8 4, .bool false, .bool true]).below hb (by simp))
  clear T
  clear hb
  obtain ⟨A2, n2, c2, rfl⟩ := Arg.slice hA
  clear hA
  go_wp2_with fail
  refine (kf_name_in _ 5 _ (congrArg KF.name HK.out)).mono ?_
  rintro e w3 ⟨rfl, hb⟩
  have T := below_on (w := w2) (by go_grown) hb
  have B3 := hide (below_on B2.out T)
  replace HH := hide (HH.out.below T HH.out.lt)
  replace CC := hide (CC.out.below T CC.out.lt)
  clear T
  clear hb
  go_wp2_with fail
  refine (kf_named_in _ ⟨#[97, 99, 113, 117, 105, 114, 101]⟩ 5 (by kernel_rfl) (by decide)).mono ?_
  rintro e w4 ⟨rfl, hb⟩
  have T := below_on (w := w3) (by go_grown) hb
  have B4 := hide (below_on B3.out T)
  replace HH := hide (HH.out.below T HH.out.lt)
  replace CC := hide (CC.out.below T CC.out.lt)
  clear T
  clear hb
  have c0 : w4.cell? ⟨w1.heap.size, 0, none⟩ = some (.slice (some ⟨bq, 0, none⟩) 1 1) := CC.out.cell 0
  have c1 : w4.cell? ⟨w1.heap.size, 1, none⟩ = some (.int .u8 4) := CC.out.cell 1
  have c2 : w4.cell? ⟨w1.heap.size, 2, none⟩ = some (.bool false) := CC.out.cell 2
  have c3 : w4.cell? ⟨w1.heap.size, 3, none⟩ = some (.bool true) := CC.out.cell 3
  have a0 : w4.cell? ⟨bq, 0, none⟩ = some (.int .u8 5) := HH.out.cell 0
  go_wp2_with fail
  refine (kf_takes_in _ _ _ _ [5] _ _ _ 0 false rfl ((slice_has (l := [5]) HH.out).below (by go_grown)) (by decide) (by decide) (by decide)).mono ?_
  rintro e w5 ⟨rfl, hb⟩
  clear c0 c1 c2 c3 a0
  have T := below_on (w := w4) (by go_grown) hb
  have B5 := hide (below_on B4.out T)
  replace CC := hide (CC.out.below T CC.out.lt)
  clear T hb
  have c0 : w5.cell? ⟨w1.heap.size, 0, none⟩ = some (.slice (some ⟨bq, 0, none⟩) 1 1) := CC.out.cell 0
  have c1 : w5.cell? ⟨w1.heap.size, 1, none⟩ = some (.int .u8 4) := CC.out.cell 1
  have c2 : w5.cell? ⟨w1.heap.size, 2, none⟩ = some (.bool false) := CC.out.cell 2
  have c3 : w5.cell? ⟨w1.heap.size, 3, none⟩ = some (.bool true) := CC.out.cell 3
  go_wp2_with fail
  refine (kf_alive _).mono ?_
  rintro e w6 ⟨rfl, hb⟩
  have T := below_on (w := w5) (by go_grown) hb
  have B6 := hide (below_on B5.out T)
  clear T hb c0 c1 c2 c3
  go_wp2_with fail
  go_returns
  exact ⟨rfl, B6.out⟩

theorem ksound_out_6 (w : World) (other : Int) (ho : ¬ (1 ≤ other ∧ other ≤ 17)) :
    Calls Try.prog 7 #[.int .i32 6, .int .i32 other] w (KPost w) := by
  have hK : kfK 6 = ⟨⟨#[120, 99, 104, 103]⟩, [6, 7], 5, false, false⟩ := by kernel_rfl
  have HO := hide ho
  clear ho
  have HK := hide hK
  clear hK
  go_enter Try.func7, Try.ntmps7
  go_wp2_with fail
  refine (kf_in _ 6 _ HK.out (by decide)).mono ?_
  rintro e w1 ⟨v0, rfl, hA, hb⟩
  obtain ⟨bq, hbq, rfl, hH⟩ := Arg.more hA
  have HH := hide hH
  clear hA hH
  have B1 := hide hb
  clear hb
  go_wp2_with fail
  refine (kf_out _ other HO.out).mono ?_
  rintro e w2 ⟨v2, rfl, hA, hb⟩
  have T := below_on (w := w1) (by go_grown) hb
  have B2 := hide (below_on B1.out T)
  replace HH := hide (HH.out.below T HH.out.lt)
  have CC := hide ((Has.new w1 37 #[.slice (some ⟨bq, 0, none⟩) 2 2, .int .u8 5, .bool false, .bool false]).below hb (by simp))
  clear T
  clear hb
  obtain ⟨A2, n2, c2, rfl⟩ := Arg.slice hA
  clear hA
  go_wp2_with fail
  refine (kf_name_in _ 6 _ (congrArg KF.name HK.out)).mono ?_
  rintro e w3 ⟨rfl, hb⟩
  have T := below_on (w := w2) (by go_grown) hb
  have B3 := hide (below_on B2.out T)
  replace HH := hide (HH.out.below T HH.out.lt)
  replace CC := hide (CC.out.below T CC.out.lt)
  clear T
  clear hb
  go_wp2_with fail
  refine (kf_named_in _ ⟨#[120, 99, 104, 103]⟩ 6 (by kernel_rfl) (by decide)).mono ?_
  rintro e w4 ⟨rfl, hb⟩
  have T := below_on (w := w3) (by go_grown) hb
  have B4 := hide (below_on B3.out T)
  replace HH := hide (HH.out.below T HH.out.lt)
  replace CC := hide (CC.out.below T CC.out.lt)
  clear T
  clear hb
  have c0 : w4.cell? ⟨w1.heap.size, 0, none⟩ = some (.slice (some ⟨bq, 0, none⟩) 2 2) := CC.out.cell 0
  have c1 : w4.cell? ⟨w1.heap.size, 1, none⟩ = some (.int .u8 5) := CC.out.cell 1
  have c2 : w4.cell? ⟨w1.heap.size, 2, none⟩ = some (.bool false) := CC.out.cell 2
  have c3 : w4.cell? ⟨w1.heap.size, 3, none⟩ = some (.bool false) := CC.out.cell 3
  have a0 : w4.cell? ⟨bq, 0, none⟩ = some (.int .u8 6) := HH.out.cell 0
  have a1 : w4.cell? ⟨bq, 1, none⟩ = some (.int .u8 7) := HH.out.cell 1
  go_wp2_with fail
  refine (kf_takes_in _ _ _ _ [6, 7] _ _ _ 1 true rfl ((slice_has (l := [6, 7]) HH.out).below (by go_grown)) (by decide) (by decide) (by decide)).mono ?_
  rintro e w5 ⟨rfl, hb⟩
  clear c0 c1 c2 c3 a0 a1
  have T := below_on (w := w4) (by go_grown) hb
  have B5 := hide (below_on B4.out T)
  replace CC := hide (CC.out.below T CC.out.lt)
  clear T hb
  have c0 : w5.cell? ⟨w1.heap.size, 0, none⟩ = some (.slice (some ⟨bq, 0, none⟩) 2 2) := CC.out.cell 0
  have c1 : w5.cell? ⟨w1.heap.size, 1, none⟩ = some (.int .u8 5) := CC.out.cell 1
  have c2 : w5.cell? ⟨w1.heap.size, 2, none⟩ = some (.bool false) := CC.out.cell 2
  have c3 : w5.cell? ⟨w1.heap.size, 3, none⟩ = some (.bool false) := CC.out.cell 3
  go_wp2_with fail
  refine (kf_alive _).mono ?_
  rintro e w6 ⟨rfl, hb⟩
  have T := below_on (w := w5) (by go_grown) hb
  have B6 := hide (below_on B5.out T)
  clear T hb c0 c1 c2 c3
  go_wp2_with fail
  go_returns
  exact ⟨rfl, B6.out⟩

theorem ksound_out_7 (w : World) (other : Int) (ho : ¬ (1 ≤ other ∧ other ≤ 17)) :
    Calls Try.prog 7 #[.int .i32 7, .int .i32 other] w (KPost w) := by
  have hK : kfK 7 = ⟨⟨#[108, 111, 99, 107]⟩, [8], 0, false, false⟩ := by kernel_rfl
  have HO := hide ho
  clear ho
  have HK := hide hK
  clear hK
  go_enter Try.func7, Try.ntmps7
  go_wp2_with fail
  refine (kf_in _ 7 _ HK.out (by decide)).mono ?_
  rintro e w1 ⟨v0, rfl, hA, hb⟩
  obtain ⟨bq, hbq, rfl, hH⟩ := Arg.more hA
  have HH := hide hH
  clear hA hH
  have B1 := hide hb
  clear hb
  go_wp2_with fail
  refine (kf_out _ other HO.out).mono ?_
  rintro e w2 ⟨v2, rfl, hA, hb⟩
  have T := below_on (w := w1) (by go_grown) hb
  have B2 := hide (below_on B1.out T)
  replace HH := hide (HH.out.below T HH.out.lt)
  have CC := hide ((Has.new w1 37 #[.slice (some ⟨bq, 0, none⟩) 1 1, .int .u8 0, .bool false, .bool false]).below hb (by simp))
  clear T
  clear hb
  obtain ⟨A2, n2, c2, rfl⟩ := Arg.slice hA
  clear hA
  go_wp2_with fail
  refine (kf_name_in _ 7 _ (congrArg KF.name HK.out)).mono ?_
  rintro e w3 ⟨rfl, hb⟩
  have T := below_on (w := w2) (by go_grown) hb
  have B3 := hide (below_on B2.out T)
  replace HH := hide (HH.out.below T HH.out.lt)
  replace CC := hide (CC.out.below T CC.out.lt)
  clear T
  clear hb
  go_wp2_with fail
  refine (kf_named_in _ ⟨#[108, 111, 99, 107]⟩ 7 (by kernel_rfl) (by decide)).mono ?_
  rintro e w4 ⟨rfl, hb⟩
  have T := below_on (w := w3) (by go_grown) hb
  have B4 := hide (below_on B3.out T)
  replace HH := hide (HH.out.below T HH.out.lt)
  replace CC := hide (CC.out.below T CC.out.lt)
  clear T
  clear hb
  have c0 : w4.cell? ⟨w1.heap.size, 0, none⟩ = some (.slice (some ⟨bq, 0, none⟩) 1 1) := CC.out.cell 0
  have c1 : w4.cell? ⟨w1.heap.size, 1, none⟩ = some (.int .u8 0) := CC.out.cell 1
  have c2 : w4.cell? ⟨w1.heap.size, 2, none⟩ = some (.bool false) := CC.out.cell 2
  have c3 : w4.cell? ⟨w1.heap.size, 3, none⟩ = some (.bool false) := CC.out.cell 3
  have a0 : w4.cell? ⟨bq, 0, none⟩ = some (.int .u8 8) := HH.out.cell 0
  go_wp2_with fail
  refine (kf_takes_in _ _ _ _ [8] _ _ _ 0 false rfl ((slice_has (l := [8]) HH.out).below (by go_grown)) (by decide) (by decide) (by decide)).mono ?_
  rintro e w5 ⟨rfl, hb⟩
  clear c0 c1 c2 c3 a0
  have T := below_on (w := w4) (by go_grown) hb
  have B5 := hide (below_on B4.out T)
  replace CC := hide (CC.out.below T CC.out.lt)
  clear T hb
  have c0 : w5.cell? ⟨w1.heap.size, 0, none⟩ = some (.slice (some ⟨bq, 0, none⟩) 1 1) := CC.out.cell 0
  have c1 : w5.cell? ⟨w1.heap.size, 1, none⟩ = some (.int .u8 0) := CC.out.cell 1
  have c2 : w5.cell? ⟨w1.heap.size, 2, none⟩ = some (.bool false) := CC.out.cell 2
  have c3 : w5.cell? ⟨w1.heap.size, 3, none⟩ = some (.bool false) := CC.out.cell 3
  go_wp2_with fail
  refine (kf_alive _).mono ?_
  rintro e w6 ⟨rfl, hb⟩
  have T := below_on (w := w5) (by go_grown) hb
  have B6 := hide (below_on B5.out T)
  clear T hb c0 c1 c2 c3
  go_wp2_with fail
  go_returns
  exact ⟨rfl, B6.out⟩

theorem ksound_out_8 (w : World) (other : Int) (ho : ¬ (1 ≤ other ∧ other ≤ 17)) :
    Calls Try.prog 7 #[.int .i32 8, .int .i32 other] w (KPost w) := by
  have hK : kfK 8 = ⟨⟨#[117, 110, 108, 111, 99, 107]⟩, [8], 0, true, true⟩ := by kernel_rfl
  have HO := hide ho
  clear ho
  have HK := hide hK
  clear hK
  go_enter Try.func7, Try.ntmps7
  go_wp2_with fail
  refine (kf_in _ 8 _ HK.out (by decide)).mono ?_
  rintro e w1 ⟨v0, rfl, hA, hb⟩
  obtain ⟨bq, hbq, rfl, hH⟩ := Arg.more hA
  have HH := hide hH
  clear hA hH
  have B1 := hide hb
  clear hb
  go_wp2_with fail
  refine (kf_out _ other HO.out).mono ?_
  rintro e w2 ⟨v2, rfl, hA, hb⟩
  have T := below_on (w := w1) (by go_grown) hb
  have B2 := hide (below_on B1.out T)
  replace HH := hide (HH.out.below T HH.out.lt)
  have CC := hide ((Has.new w1 37 #[.slice (some ⟨bq, 0, none⟩) 1 1, .int .u8 0, .bool true, .bool true]).below hb (by simp))
  clear T
  clear hb
  obtain ⟨A2, n2, c2, rfl⟩ := Arg.slice hA
  clear hA
  go_wp2_with fail
  refine (kf_name_in _ 8 _ (congrArg KF.name HK.out)).mono ?_
  rintro e w3 ⟨rfl, hb⟩
  have T := below_on (w := w2) (by go_grown) hb
  have B3 := hide (below_on B2.out T)
  replace HH := hide (HH.out.below T HH.out.lt)
  replace CC := hide (CC.out.below T CC.out.lt)
  clear T
  clear hb
  go_wp2_with fail
  refine (kf_named_in _ ⟨#[117, 110, 108, 111, 99, 107]⟩ 8 (by kernel_rfl) (by decide)).mono ?_
  rintro e w4 ⟨rfl, hb⟩
  have T := below_on (w := w3) (by go_grown) hb
  have B4 := hide (below_on B3.out T)
  replace HH := hide (HH.out.below T HH.out.lt)
  replace CC := hide (CC.out.below T CC.out.lt)
  clear T
  clear hb
  have c0 : w4.cell? ⟨w1.heap.size, 0, none⟩ = some (.slice (some ⟨bq, 0, none⟩) 1 1) := CC.out.cell 0
  have c1 : w4.cell? ⟨w1.heap.size, 1, none⟩ = some (.int .u8 0) := CC.out.cell 1
  have c2 : w4.cell? ⟨w1.heap.size, 2, none⟩ = some (.bool true) := CC.out.cell 2
  have c3 : w4.cell? ⟨w1.heap.size, 3, none⟩ = some (.bool true) := CC.out.cell 3
  have a0 : w4.cell? ⟨bq, 0, none⟩ = some (.int .u8 8) := HH.out.cell 0
  go_wp2_with fail
  refine (kf_takes_in _ _ _ _ [8] _ _ _ 0 false rfl ((slice_has (l := [8]) HH.out).below (by go_grown)) (by decide) (by decide) (by decide)).mono ?_
  rintro e w5 ⟨rfl, hb⟩
  clear c0 c1 c2 c3 a0
  have T := below_on (w := w4) (by go_grown) hb
  have B5 := hide (below_on B4.out T)
  replace CC := hide (CC.out.below T CC.out.lt)
  clear T hb
  have c0 : w5.cell? ⟨w1.heap.size, 0, none⟩ = some (.slice (some ⟨bq, 0, none⟩) 1 1) := CC.out.cell 0
  have c1 : w5.cell? ⟨w1.heap.size, 1, none⟩ = some (.int .u8 0) := CC.out.cell 1
  have c2 : w5.cell? ⟨w1.heap.size, 2, none⟩ = some (.bool true) := CC.out.cell 2
  have c3 : w5.cell? ⟨w1.heap.size, 3, none⟩ = some (.bool true) := CC.out.cell 3
  go_wp2_with fail
  refine (kf_alive _).mono ?_
  rintro e w6 ⟨rfl, hb⟩
  have T := below_on (w := w5) (by go_grown) hb
  have B6 := hide (below_on B5.out T)
  clear T hb c0 c1 c2 c3
  go_wp2_with fail
  go_returns
  exact ⟨rfl, B6.out⟩

theorem ksound_out_9 (w : World) (other : Int) (ho : ¬ (1 ≤ other ∧ other ≤ 17)) :
    Calls Try.prog 7 #[.int .i32 9, .int .i32 other] w (KPost w) := by
  have hK : kfK 9 = ⟨⟨#[112, 117, 115, 104, 95, 102, 114, 111, 110, 116]⟩, [9, 10], 6, true, true⟩ := by kernel_rfl
  have HO := hide ho
  clear ho
  have HK := hide hK
  clear hK
  go_enter Try.func7, Try.ntmps7
  go_wp2_with fail
  refine (kf_in _ 9 _ HK.out (by decide)).mono ?_
  rintro e w1 ⟨v0, rfl, hA, hb⟩
  obtain ⟨bq, hbq, rfl, hH⟩ := Arg.more hA
  have HH := hide hH
  clear hA hH
  have B1 := hide hb
  clear hb
  go_wp2_with fail
  refine (kf_out _ other HO.out).mono ?_
  rintro e w2 ⟨v2, rfl, hA, hb⟩
  have T := below_on (w := w1) (by go_grown) hb
  have B2 := hide (below_on B1.out T)
  replace HH := hide (HH.out.below T HH.out.lt)
  have CC := hide ((Has.new w1 37 #[.slice (some ⟨bq, 0, none⟩) 2 2, .int .u8 6, .bool true, .bool true]).below hb (by simp))
  clear T
  clear hb
  obtain ⟨A2, n2, c2, rfl⟩ := Arg.slice hA
  clear hA
  go_wp2_with fail
  refine (kf_name_in _ 9 _ (congrArg KF.name HK.out)).mono ?_
  rintro e w3 ⟨rfl, hb⟩
  have T := below_on (w := w2) (by go_grown) hb
  have B3 := hide (below_on B2.out T)
  replace HH := hide (HH.out.below T HH.out.lt)
  replace CC := hide (CC.out.below T CC.out.lt)
  clear T
  clear hb
  go_wp2_with fail
  refine (kf_named_in _ ⟨#[112, 117, 115, 104, 95, 102, 114, 111, 110, 116]⟩ 9 (by kernel_rfl) (by decide)).mono ?_
  rintro e w4 ⟨rfl, hb⟩
  have T := below_on (w := w3) (by go_grown) hb
  have B4 := hide (below_on B3.out T)
  replace HH := hide (HH.out.below T HH.out.lt)
  replace CC := hide (CC.out.below T CC.out.lt)
  clear T
  clear hb
  have c0 : w4.cell? ⟨w1.heap.size, 0, none⟩ = some (.slice (some ⟨bq, 0, none⟩) 2 2) := CC.out.cell 0
  have c1 : w4.cell? ⟨w1.heap.size, 1, none⟩ = some (.int .u8 6) := CC.out.cell 1
  have c2 : w4.cell? ⟨w1.heap.size, 2, none⟩ = some (.bool true) := CC.out.cell 2
  have c3 : w4.cell? ⟨w1.heap.size, 3, none⟩ = some (.bool true) := CC.out.cell 3
  have a0 : w4.cell? ⟨bq, 0, none⟩ = some (.int .u8 9) := HH.out.cell 0
  have a1 : w4.cell? ⟨bq, 1, none⟩ = some (.int .u8 10) := HH.out.cell 1
  go_wp2_with fail
  refine (kf_takes_in _ _ _ _ [9, 10] _ _ _ 1 true rfl ((slice_has (l := [9, 10]) HH.out).below (by go_grown)) (by decide) (by decide) (by decide)).mono ?_
  rintro e w5 ⟨rfl, hb⟩
  clear c0 c1 c2 c3 a0 a1
  have T := below_on (w := w4) (by go_grown) hb
  have B5 := hide (below_on B4.out T)
  replace CC := hide (CC.out.below T CC.out.lt)
  clear T hb
  have c0 : w5.cell? ⟨w1.heap.size, 0, none⟩ = some (.slice (some ⟨bq, 0, none⟩) 2 2) := CC.out.cell 0
  have c1 : w5.cell? ⟨w1.heap.size, 1, none⟩ = some (.int .u8 6) := CC.out.cell 1
  have c2 : w5.cell? ⟨w1.heap.size, 2, none⟩ = some (.bool true) := CC.out.cell 2
  have c3 : w5.cell? ⟨w1.heap.size, 3, none⟩ = some (.bool true) := CC.out.cell 3
  go_wp2_with fail
  refine (kf_alive _).mono ?_
  rintro e w6 ⟨rfl, hb⟩
  have T := below_on (w := w5) (by go_grown) hb
  have B6 := hide (below_on B5.out T)
  clear T hb c0 c1 c2 c3
  go_wp2_with fail
  go_returns
  exact ⟨rfl, B6.out⟩

theorem ksound_out_10 (w : World) (other : Int) (ho : ¬ (1 ≤ other ∧ other ≤ 17)) :
    Calls Try.prog 7 #[.int .i32 10, .int .i32 other] w (KPost w) := by
  have hK : kfK 10 = ⟨⟨#[112, 117, 115, 104, 95, 98, 97, 99, 107]⟩, [9, 10], 6, true, true⟩ := by kernel_rfl
  have HO := hide ho
  clear ho
  have HK := hide hK
  clear hK
  go_enter Try.func7, Try.ntmps7
  go_wp2_with fail
  refine (kf_in _ 10 _ HK.out (by decide)).mono ?_
  rintro e w1 ⟨v0, rfl, hA, hb⟩
  obtain ⟨bq, hbq, rfl, hH⟩ := Arg.more hA
  have HH := hide hH
  clear hA hH
  have B1 := hide hb
  clear hb
  go_wp2_with fail
  refine (kf_out _ other HO.out).mono ?_
  rintro e w2 ⟨v2, rfl, hA, hb⟩
  have T := below_on (w := w1) (by go_grown) hb
  have B2 := hide (below_on B1.out T)
  replace HH := hide (HH.out.below T HH.out.lt)
  have CC := hide ((Has.new w1 37 #[.slice (some ⟨bq, 0, none⟩) 2 2, .int .u8 6, .bool true, .bool true]).below hb (by simp))
  clear T
  clear hb
  obtain ⟨A2, n2, c2, rfl⟩ := Arg.slice hA
  clear hA
  go_wp2_with fail
  refine (kf_name_in _ 10 _ (congrArg KF.name HK.out)).mono ?_
  rintro e w3 ⟨rfl, hb⟩
  have T := below_on (w := w2) (by go_grown) hb
  have B3 := hide (below_on B2.out T)
  replace HH := hide (HH.out.below T HH.out.lt)
  replace CC := hide (CC.out.below T CC.out.lt)
  clear T
  clear hb
  go_wp2_with fail
  refine (kf_named_in _ ⟨#[112, 117, 115, 104, 95, 98, 97, 99, 107]⟩ 10 (by kernel_rfl) (by decide)).mono ?_
  rintro e w4 ⟨rfl, hb⟩
  have T := below_on (w := w3) (by go_grown) hb
  have B4 := hide (below_on B3.out T)
  replace HH := hide (HH.out.below T HH.out.lt)
  replace CC := hide (CC.out.below T CC.out.lt)
  clear T
  clear hb
  have c0 : w4.cell? ⟨w1.heap.size, 0, none⟩ = some (.slice (some ⟨bq, 0, none⟩) 2 2) := CC.out.cell 0
  have c1 : w4.cell? ⟨w1.heap.size, 1, none⟩ = some (.int .u8 6) := CC.out.cell 1
  have c2 : w4.cell? ⟨w1.heap.size, 2, none⟩ = some (.bool true) := CC.out.cell 2
  have c3 : w4.cell? ⟨w1.heap.size, 3, none⟩ = some (.bool true) := CC.out.cell 3
  have a0 : w4.cell? ⟨bq, 0, none⟩ = some (.int .u8 9) := HH.out.cell 0
  have a1 : w4.cell? ⟨bq, 1, none⟩ = some (.int .u8 10) := HH.out.cell 1
  go_wp2_with fail
  refine (kf_takes_in _ _ _ _ [9, 10] _ _ _ 1 true rfl ((slice_has (l := [9, 10]) HH.out).below (by go_grown)) (by decide) (by decide) (by decide)).mono ?_
  rintro e w5 ⟨rfl, hb⟩
  clear c0 c1 c2 c3 a0 a1
  have T := below_on (w := w4) (by go_grown) hb
  have B5 := hide (below_on B4.out T)
  replace CC := hide (CC.out.below T CC.out.lt)
  clear T hb
  have c0 : w5.cell? ⟨w1.heap.size, 0, none⟩ = some (.slice (some ⟨bq, 0, none⟩) 2 2) := CC.out.cell 0
  have c1 : w5.cell? ⟨w1.heap.size, 1, none⟩ = some (.int .u8 6) := CC.out.cell 1
  have c2 : w5.cell? ⟨w1.heap.size, 2, none⟩ = some (.bool true) := CC.out.cell 2
  have c3 : w5.cell? ⟨w1.heap.size, 3, none⟩ = some (.bool true) := CC.out.cell 3
  go_wp2_with fail
  refine (kf_alive _).mono ?_
  rintro e w6 ⟨rfl, hb⟩
  have T := below_on (w := w5) (by go_grown) hb
  have B6 := hide (below_on B5.out T)
  clear T hb c0 c1 c2 c3
  go_wp2_with fail
  go_returns
  exact ⟨rfl, B6.out⟩

theorem ksound_out_11 (w : World) (other : Int) (ho : ¬ (1 ≤ other ∧ other ≤ 17)) :
    Calls Try.prog 7 #[.int .i32 11, .int .i32 other] w (KPost w) := by
  have hK : kfK 11 = ⟨⟨#[112, 111, 112, 95, 102, 114, 111, 110, 116]⟩, [9], 7, true, true⟩ := by kernel_rfl
  have HO := hide ho
  clear ho
  have HK := hide hK
  clear hK
  go_enter Try.func7, Try.ntmps7
  go_wp2_with fail
  refine (kf_in _ 11 _ HK.out (by decide)).mono ?_
  rintro e w1 ⟨v0, rfl, hA, hb⟩
  obtain ⟨bq, hbq, rfl, hH⟩ := Arg.more hA
  have HH := hide hH
  clear hA hH
  have B1 := hide hb
  clear hb
  go_wp2_with fail
  refine (kf_out _ other HO.out).mono ?_
  rintro e w2 ⟨v2, rfl, hA, hb⟩
  have T := below_on (w := w1) (by go_grown) hb
  have B2 := hide (below_on B1.out T)
  replace HH := hide (HH.out.below T HH.out.lt)
  have CC := hide ((Has.new w1 37 #[.slice (some ⟨bq, 0, none⟩) 1 1, .int .u8 7, .bool true, .bool true]).below hb (by simp))
  clear T
  clear hb
  obtain ⟨A2, n2, c2, rfl⟩ := Arg.slice hA
  clear hA
  go_wp2_with fail
  refine (kf_name_in _ 11 _ (congrArg KF.name HK.out)).mono ?_
  rintro e w3 ⟨rfl, hb⟩
  have T := below_on (w := w2) (by go_grown) hb
  have B3 := hide (below_on B2.out T)
  replace HH := hide (HH.out.below T HH.out.lt)
  replace CC := hide (CC.out.below T CC.out.lt)
  clear T
  clear hb
  go_wp2_with fail
  refine (kf_named_in _ ⟨#[112, 111, 112, 95, 102, 114, 111, 110, 116]⟩ 11 (by kernel_rfl) (by decide)).mono ?_
  rintro e w4 ⟨rfl, hb⟩
  have T := below_on (w := w3) (by go_grown) hb
  have B4 := hide (below_on B3.out T)
  replace HH := hide (HH.out.below T HH.out.lt)
  replace CC := hide (CC.out.below T CC.out.lt)
  clear T
  clear hb
  have c0 : w4.cell? ⟨w1.heap.size, 0, none⟩ = some (.slice (some ⟨bq, 0, none⟩) 1 1) := CC.out.cell 0
  have c1 : w4.cell? ⟨w1.heap.size, 1, none⟩ = some (.int .u8 7) := CC.out.cell 1
  have c2 : w4.cell? ⟨w1.heap.size, 2, none⟩ = some (.bool true) := CC.out.cell 2
  have c3 : w4.cell? ⟨w1.heap.size, 3, none⟩ = some (.bool true) := CC.out.cell 3
  have a0 : w4.cell? ⟨bq, 0, none⟩ = some (.int .u8 9) := HH.out.cell 0
  go_wp2_with fail
  refine (kf_takes_in _ _ _ _ [9] _ _ _ 0 false rfl ((slice_has (l := [9]) HH.out).below (by go_grown)) (by decide) (by decide) (by decide)).mono ?_
  rintro e w5 ⟨rfl, hb⟩
  clear c0 c1 c2 c3 a0
  have T := below_on (w := w4) (by go_grown) hb
  have B5 := hide (below_on B4.out T)
  replace CC := hide (CC.out.below T CC.out.lt)
  clear T hb
  have c0 : w5.cell? ⟨w1.heap.size, 0, none⟩ = some (.slice (some ⟨bq, 0, none⟩) 1 1) := CC.out.cell 0
  have c1 : w5.cell? ⟨w1.heap.size, 1, none⟩ = some (.int .u8 7) := CC.out.cell 1
  have c2 : w5.cell? ⟨w1.heap.size, 2, none⟩ = some (.bool true) := CC.out.cell 2
  have c3 : w5.cell? ⟨w1.heap.size, 3, none⟩ = some (.bool true) := CC.out.cell 3
  go_wp2_with fail
  refine (kf_alive _).mono ?_
  rintro e w6 ⟨rfl, hb⟩
  have T := below_on (w := w5) (by go_grown) hb
  have B6 := hide (below_on B5.out T)
  clear T hb c0 c1 c2 c3
  go_wp2_with fail
  go_returns
  exact ⟨rfl, B6.out⟩

theorem ksound_out_12 (w : World) (other : Int) (ho : ¬ (1 ≤ other ∧ other ≤ 17)) :
    Calls Try.prog 7 #[.int .i32 12, .int .i32 other] w (KPost w) := by
  have hK : kfK 12 = ⟨⟨#[112, 111, 112, 95, 98, 97, 99, 107]⟩, [9], 7, true, true⟩ := by kernel_rfl
  have HO := hide ho
  clear ho
  have HK := hide hK
  clear hK
  go_enter Try.func7, Try.ntmps7
  go_wp2_with fail
  refine (kf_in _ 12 _ HK.out (by decide)).mono ?_
  rintro e w1 ⟨v0, rfl, hA, hb⟩
  obtain ⟨bq, hbq, rfl, hH⟩ := Arg.more hA
  have HH := hide hH
  clear hA hH
  have B1 := hide hb
  clear hb
  go_wp2_with fail
  refine (kf_out _ other HO.out).mono ?_
  rintro e w2 ⟨v2, rfl, hA, hb⟩
  have T := below_on (w := w1) (by go_grown) hb
  have B2 := hide (below_on B1.out T)
  replace HH := hide (HH.out.below T HH.out.lt)
  have CC := hide ((Has.new w1 37 #[.slice (some ⟨bq, 0, none⟩) 1 1, .int .u8 7, .bool true, .bool true]).below hb (by simp))
  clear T
  clear hb
  obtain ⟨A2, n2, c2, rfl⟩ := Arg.slice hA
  clear hA
  go_wp2_with fail
  refine (kf_name_in _ 12 _ (congrArg KF.name HK.out)).mono ?_
  rintro e w3 ⟨rfl, hb⟩
  have T := below_on (w := w2) (by go_grown) hb
  have B3 := hide (below_on B2.out T)
  replace HH := hide (HH.out.below T HH.out.lt)
  replace CC := hide (CC.out.below T CC.out.lt)
  clear T
  clear hb
  go_wp2_with fail
  refine (kf_named_in _ ⟨#[112, 111, 112, 95, 98, 97, 99, 107]⟩ 12 (by kernel_rfl) (by decide)).mono ?_
  rintro e w4 ⟨rfl, hb⟩
  have T := below_on (w := w3) (by go_grown) hb
  have B4 := hide (below_on B3.out T)
  replace HH := hide (HH.out.below T HH.out.lt)
  replace CC := hide (CC.out.below T CC.out.lt)
  clear T
  clear hb
  have c0 : w4.cell? ⟨w1.heap.size, 0, none⟩ = some (.slice (some ⟨bq, 0, none⟩) 1 1) := CC.out.cell 0
  have c1 : w4.cell? ⟨w1.heap.size, 1, none⟩ = some (.int .u8 7) := CC.out.cell 1
  have c2 : w4.cell? ⟨w1.heap.size, 2, none⟩ = some (.bool true) := CC.out.cell 2
  have c3 : w4.cell? ⟨w1.heap.size, 3, none⟩ = some (.bool true) := CC.out.cell 3
  have a0 : w4.cell? ⟨bq, 0, none⟩ = some (.int .u8 9) := HH.out.cell 0
  go_wp2_with fail
  refine (kf_takes_in _ _ _ _ [9] _ _ _ 0 false rfl ((slice_has (l := [9]) HH.out).below (by go_grown)) (by decide) (by decide) (by decide)).mono ?_
  rintro e w5 ⟨rfl, hb⟩
  clear c0 c1 c2 c3 a0
  have T := below_on (w := w4) (by go_grown) hb
  have B5 := hide (below_on B4.out T)
  replace CC := hide (CC.out.below T CC.out.lt)
  clear T hb
  have c0 : w5.cell? ⟨w1.heap.size, 0, none⟩ = some (.slice (some ⟨bq, 0, none⟩) 1 1) := CC.out.cell 0
  have c1 : w5.cell? ⟨w1.heap.size, 1, none⟩ = some (.int .u8 7) := CC.out.cell 1
  have c2 : w5.cell? ⟨w1.heap.size, 2, none⟩ = some (.bool true) := CC.out.cell 2
  have c3 : w5.cell? ⟨w1.heap.size, 3, none⟩ = some (.bool true) := CC.out.cell 3
  go_wp2_with fail
  refine (kf_alive _).mono ?_
  rintro e w6 ⟨rfl, hb⟩
  have T := below_on (w := w5) (by go_grown) hb
  have B6 := hide (below_on B5.out T)
  clear T hb c0 c1 c2 c3
  go_wp2_with fail
  go_returns
  exact ⟨rfl, B6.out⟩

theorem ksound_out_13 (w : World) (other : Int) (ho : ¬ (1 ≤ other ∧ other ≤ 17)) :
    Calls Try.prog 7 #[.int .i32 13, .int .i32 other] w (KPost w) := by
  have hK : kfK 13 = ⟨⟨#[102, 114, 111, 110, 116]⟩, [9], 8, true, true⟩ := by kernel_rfl
  have HO := hide ho
  clear ho
  have HK := hide hK
  clear hK
  go_enter Try.func7, Try.ntmps7
  go_wp2_with fail
  refine (kf_in _ 13 _ HK.out (by decide)).mono ?_
  rintro e w1 ⟨v0, rfl, hA, hb⟩
  obtain ⟨bq, hbq, rfl, hH⟩ := Arg.more hA
  have HH := hide hH
  clear hA hH
  have B1 := hide hb
  clear hb
  go_wp2_with fail
  refine (kf_out _ other HO.out).mono ?_
  rintro e w2 ⟨v2, rfl, hA, hb⟩
  have T := below_on (w := w1) (by go_grown) hb
  have B2 := hide (below_on B1.out T)
  replace HH := hide (HH.out.below T HH.out.lt)
  have CC := hide ((Has.new w1 37 #[.slice (some ⟨bq, 0, none⟩) 1 1, .int .u8 8, .bool true, .bool true]).below hb (by simp))
  clear T
  clear hb
  obtain ⟨A2, n2, c2, rfl⟩ := Arg.slice hA
  clear hA
  go_wp2_with fail
  refine (kf_name_in _ 13 _ (congrArg KF.name HK.out)).mono ?_
  rintro e w3 ⟨rfl, hb⟩
  have T := below_on (w := w2) (by go_grown) hb
  have B3 := hide (below_on B2.out T)
  replace HH := hide (HH.out.below T HH.out.lt)
  replace CC := hide (CC.out.below T CC.out.lt)
  clear T
  clear hb
  go_wp2_with fail
  refine (kf_named_in _ ⟨#[102, 114, 111, 110, 116]⟩ 13 (by kernel_rfl) (by decide)).mono ?_
  rintro e w4 ⟨rfl, hb⟩
  have T := below_on (w := w3) (by go_grown) hb
  have B4 := hide (below_on B3.out T)
  replace HH := hide (HH.out.below T HH.out.lt)
  replace CC := hide (CC.out.below T CC.out.lt)
  clear T
  clear hb
  have c0 : w4.cell? ⟨w1.heap.size, 0, none⟩ = some (.slice (some ⟨bq, 0, none⟩) 1 1) := CC.out.cell 0
  have c1 : w4.cell? ⟨w1.heap.size, 1, none⟩ = some (.int .u8 8) := CC.out.cell 1
  have c2 : w4.cell? ⟨w1.heap.size, 2, none⟩ = some (.bool true) := CC.out.cell 2
  have c3 : w4.cell? ⟨w1.heap.size, 3, none⟩ = some (.bool true) := CC.out.cell 3
  have a0 : w4.cell? ⟨bq, 0, none⟩ = some (.int .u8 9) := HH.out.cell 0
  go_wp2_with fail
  refine (kf_takes_in _ _ _ _ [9] _ _ _ 0 false rfl ((slice_has (l := [9]) HH.out).below (by go_grown)) (by decide) (by decide) (by decide)).mono ?_
  rintro e w5 ⟨rfl, hb⟩
  clear c0 c1 c2 c3 a0
  have T := below_on (w := w4) (by go_grown) hb
  have B5 := hide (below_on B4.out T)
  replace CC := hide (CC.out.below T CC.out.lt)
  clear T hb
  have c0 : w5.cell? ⟨w1.heap.size, 0, none⟩ = some (.slice (some ⟨bq, 0, none⟩) 1 1) := CC.out.cell 0
  have c1 : w5.cell? ⟨w1.heap.size, 1, none⟩ = some (.int .u8 8) := CC.out.cell 1
  have c2 : w5.cell? ⟨w1.heap.size, 2, none⟩ = some (.bool true) := CC.out.cell 2
  have c3 : w5.cell? ⟨w1.heap.size, 3, none⟩ = some (.bool true) := CC.out.cell 3
  go_wp2_with fail
  refine (kf_alive _).mono ?_
  rintro e w6 ⟨rfl, hb⟩
  have T := below_on (w := w5) (by go_grown) hb
  have B6 := hide (below_on B5.out T)
  clear T hb c0 c1 c2 c3
  go_wp2_with fail
  go_returns
  exact ⟨rfl, B6.out⟩

theorem ksound_out_14 (w : World) (other : Int) (ho : ¬ (1 ≤ other ∧ other ≤ 17)) :
    Calls Try.prog 7 #[.int .i32 14, .int .i32 other] w (KPost w) := by
  have hK : kfK 14 = ⟨⟨#[98, 97, 99, 107]⟩, [9], 8, true, true⟩ := by kernel_rfl
  have HO := hide ho
  clear ho
  have HK := hide hK
  clear hK
  go_enter Try.func7, Try.ntmps7
  go_wp2_with fail
  refine (kf_in _ 14 _ HK.out (by decide)).mono ?_
  rintro e w1 ⟨v0, rfl, hA, hb⟩
  obtain ⟨bq, hbq, rfl, hH⟩ := Arg.more hA
  have HH := hide hH
  clear hA hH
  have B1 := hide hb
  clear hb
  go_wp2_with fail
  refine (kf_out _ other HO.out).mono ?_
  rintro e w2 ⟨v2, rfl, hA, hb⟩
  have T := below_on (w := w1) (by go_grown) hb
  have B2 := hide (below_on B1.out T)
  replace HH := hide (HH.out.below T HH.out.lt)
  have CC := hide ((Has.new w1 37 #[.slice (some ⟨bq, 0, none⟩) 1 1, .int .u8 8, .bool true, .bool true]).below hb (by simp))
  clear T
  clear hb
  obtain ⟨A2, n2, c2, rfl⟩ := Arg.slice hA
  clear hA
  go_wp2_with fail
  refine (kf_name_in _ 14 _ (congrArg KF.name HK.out)).mono ?_
  rintro e w3 ⟨rfl, hb⟩
  have T := below_on (w := w2) (by go_grown) hb
  have B3 := hide (below_on B2.out T)
  replace HH := hide (HH.out.below T HH.out.lt)
  replace CC := hide (CC.out.below T CC.out.lt)
  clear T
  clear hb
  go_wp2_with fail
  refine (kf_named_in _ ⟨#[98, 97, 99, 107]⟩ 14 (by kernel_rfl) (by decide)).mono ?_
  rintro e w4 ⟨rfl, hb⟩
  have T := below_on (w := w3) (by go_grown) hb
  have B4 := hide (below_on B3.out T)
  replace HH := hide (HH.out.below T HH.out.lt)
  replace CC := hide (CC.out.below T CC.out.lt)
  clear T
  clear hb
  have c0 : w4.cell? ⟨w1.heap.size, 0, none⟩ = some (.slice (some ⟨bq, 0, none⟩) 1 1) := CC.out.cell 0
  have c1 : w4.cell? ⟨w1.heap.size, 1, none⟩ = some (.int .u8 8) := CC.out.cell 1
  have c2 : w4.cell? ⟨w1.heap.size, 2, none⟩ = some (.bool true) := CC.out.cell 2
  have c3 : w4.cell? ⟨w1.heap.size, 3, none⟩ = some (.bool true) := CC.out.cell 3
  have a0 : w4.cell? ⟨bq, 0, none⟩ = some (.int .u8 9) := HH.out.cell 0
  go_wp2_with fail
  refine (kf_takes_in _ _ _ _ [9] _ _ _ 0 false rfl ((slice_has (l := [9]) HH.out).below (by go_grown)) (by decide) (by decide) (by decide)).mono ?_
  rintro e w5 ⟨rfl, hb⟩
  clear c0 c1 c2 c3 a0
  have T := below_on (w := w4) (by go_grown) hb
  have B5 := hide (below_on B4.out T)
  replace CC := hide (CC.out.below T CC.out.lt)
  clear T hb
  have c0 : w5.cell? ⟨w1.heap.size, 0, none⟩ = some (.slice (some ⟨bq, 0, none⟩) 1 1) := CC.out.cell 0
  have c1 : w5.cell? ⟨w1.heap.size, 1, none⟩ = some (.int .u8 8) := CC.out.cell 1
  have c2 : w5.cell? ⟨w1.heap.size, 2, none⟩ = some (.bool true) := CC.out.cell 2
  have c3 : w5.cell? ⟨w1.heap.size, 3, none⟩ = some (.bool true) := CC.out.cell 3
  go_wp2_with fail
  refine (kf_alive _).mono ?_
  rintro e w6 ⟨rfl, hb⟩
  have T := below_on (w := w5) (by go_grown) hb
  have B6 := hide (below_on B5.out T)
  clear T hb c0 c1 c2 c3
  go_wp2_with fail
  go_returns
  exact ⟨rfl, B6.out⟩

theorem ksound_out_15 (w : World) (other : Int) (ho : ¬ (1 ≤ other ∧ other ≤ 17)) :
    Calls Try.prog 7 #[.int .i32 15, .int .i32 other] w (KPost w) := by
  have hK : kfK 15 = ⟨⟨#[97, 100, 100]⟩, [11, 12, 14], 6, true, true⟩ := by kernel_rfl
  have HO := hide ho
  clear ho
  have HK := hide hK
  clear hK
  go_enter Try.func7, Try.ntmps7
  go_wp2_with fail
  refine (kf_in _ 15 _ HK.out (by decide)).mono ?_
  rintro e w1 ⟨v0, rfl, hA, hb⟩
  obtain ⟨bq, hbq, rfl, hH⟩ := Arg.more hA
  have HH := hide hH
  clear hA hH
  have B1 := hide hb
  clear hb
  go_wp2_with fail
  refine (kf_out _ other HO.out).mono ?_
  rintro e w2 ⟨v2, rfl, hA, hb⟩
  have T := below_on (w := w1) (by go_grown) hb
  have B2 := hide (below_on B1.out T)
  replace HH := hide (HH.out.below T HH.out.lt)
  have CC := hide ((Has.new w1 37 #[.slice (some ⟨bq, 0, none⟩) 3 3, .int .u8 6, .bool true, .bool true]).below hb (by simp))
  clear T
  clear hb
  obtain ⟨A2, n2, c2, rfl⟩ := Arg.slice hA
  clear hA
  go_wp2_with fail
  refine (kf_name_in _ 15 _ (congrArg KF.name HK.out)).mono ?_
  rintro e w3 ⟨rfl, hb⟩
  have T := below_on (w := w2) (by go_grown) hb
  have B3 := hide (below_on B2.out T)
  replace HH := hide (HH.out.below T HH.out.lt)
  replace CC := hide (CC.out.below T CC.out.lt)
  clear T
  clear hb
  go_wp2_with fail
  refine (kf_named_in _ ⟨#[97, 100, 100]⟩ 15 (by kernel_rfl) (by decide)).mono ?_
  rintro e w4 ⟨rfl, hb⟩
  have T := below_on (w := w3) (by go_grown) hb
  have B4 := hide (below_on B3.out T)
  replace HH := hide (HH.out.below T HH.out.lt)
  replace CC := hide (CC.out.below T CC.out.lt)
  clear T
  clear hb
  have c0 : w4.cell? ⟨w1.heap.size, 0, none⟩ = some (.slice (some ⟨bq, 0, none⟩) 3 3) := CC.out.cell 0
  have c1 : w4.cell? ⟨w1.heap.size, 1, none⟩ = some (.int .u8 6) := CC.out.cell 1
  have c2 : w4.cell? ⟨w1.heap.size, 2, none⟩ = some (.bool true) := CC.out.cell 2
  have c3 : w4.cell? ⟨w1.heap.size, 3, none⟩ = some (.bool true) := CC.out.cell 3
  have a0 : w4.cell? ⟨bq, 0, none⟩ = some (.int .u8 11) := HH.out.cell 0
  have a1 : w4.cell? ⟨bq, 1, none⟩ = some (.int .u8 12) := HH.out.cell 1
  have a2 : w4.cell? ⟨bq, 2, none⟩ = some (.int .u8 14) := HH.out.cell 2
  go_wp2_with fail
  refine (kf_takes_in _ _ _ _ [11, 12, 14] _ _ _ 1 true rfl ((slice_has (l := [11, 12, 14]) HH.out).below (by go_grown)) (by decide) (by decide) (by decide)).mono ?_
  rintro e w5 ⟨rfl, hb⟩
  clear c0 c1 c2 c3 a0 a1 a2
  have T := below_on (w := w4) (by go_grown) hb
  have B5 := hide (below_on B4.out T)
  replace CC := hide (CC.out.below T CC.out.lt)
  clear T hb
  have c0 : w5.cell? ⟨w1.heap.size, 0, none⟩ = some (.slice (some ⟨bq, 0, none⟩) 3 3) := CC.out.cell 0
  have c1 : w5.cell? ⟨w1.heap.size, 1, none⟩ = some (.int .u8 6) := CC.out.cell 1
  have c2 : w5.cell? ⟨w1.heap.size, 2, none⟩ = some (.bool true) := CC.out.cell 2
  have c3 : w5.cell? ⟨w1.heap.size, 3, none⟩ = some (.bool true) := CC.out.cell 3
  go_wp2_with fail
  refine (kf_alive _).mono ?_
  rintro e w6 ⟨rfl, hb⟩
  have T := below_on (w := w5) (by go_grown) hb
  have B6 := hide (below_on B5.out T)
  clear T hb c0 c1 c2 c3
  go_wp2_with fail
  go_returns
  exact ⟨rfl, B6.out⟩

theorem ksound_out_16 (w : World) (other : Int) (ho : ¬ (1 ≤ other ∧ other ≤ 17)) :
    Calls Try.prog 7 #[.int .i32 16, .int .i32 other] w (KPost w) := by
  have hK : kfK 16 = ⟨⟨#[114, 101, 109, 111, 118, 101]⟩, [11, 13], 7, true, true⟩ := by kernel_rfl
  have HO := hide ho
  clear ho
  have HK := hide hK
  clear hK
  go_enter Try.func7, Try.ntmps7
  go_wp2_with fail
  refine (kf_in _ 16 _ HK.out (by decide)).mono ?_
  rintro e w1 ⟨v0, rfl, hA, hb⟩
  obtain ⟨bq, hbq, rfl, hH⟩ := Arg.more hA
  have HH := hide hH
  clear hA hH
  have B1 := hide hb
  clear hb
  go_wp2_with fail
  refine (kf_out _ other HO.out).mono ?_
  rintro e w2 ⟨v2, rfl, hA, hb⟩
  have T := below_on (w := w1) (by go_grown) hb
  have B2 := hide (below_on B1.out T)
  replace HH := hide (HH.out.below T HH.out.lt)
  have CC := hide ((Has.new w1 37 #[.slice (some ⟨bq, 0, none⟩) 2 2, .int .u8 7, .bool true, .bool true]).below hb (by simp))
  clear T
  clear hb
  obtain ⟨A2, n2, c2, rfl⟩ := Arg.slice hA
  clear hA
  go_wp2_with fail
  refine (kf_name_in _ 16 _ (congrArg KF.name HK.out)).mono ?_
  rintro e w3 ⟨rfl, hb⟩
  have T := below_on (w := w2) (by go_grown) hb
  have B3 := hide (below_on B2.out T)
  replace HH := hide (HH.out.below T HH.out.lt)
  replace CC := hide (CC.out.below T CC.out.lt)
  clear T
  clear hb
  go_wp2_with fail
  refine (kf_named_in _ ⟨#[114, 101, 109, 111, 118, 101]⟩ 16 (by kernel_rfl) (by decide)).mono ?_
  rintro e w4 ⟨rfl, hb⟩
  have T := below_on (w := w3) (by go_grown) hb
  have B4 := hide (below_on B3.out T)
  replace HH := hide (HH.out.below T HH.out.lt)
  replace CC := hide (CC.out.below T CC.out.lt)
  clear T
  clear hb
  have c0 : w4.cell? ⟨w1.heap.size, 0, none⟩ = some (.slice (some ⟨bq, 0, none⟩) 2 2) := CC.out.cell 0
  have c1 : w4.cell? ⟨w1.heap.size, 1, none⟩ = some (.int .u8 7) := CC.out.cell 1
  have c2 : w4.cell? ⟨w1.heap.size, 2, none⟩ = some (.bool true) := CC.out.cell 2
  have c3 : w4.cell? ⟨w1.heap.size, 3, none⟩ = some (.bool true) := CC.out.cell 3
  have a0 : w4.cell? ⟨bq, 0, none⟩ = some (.int .u8 11) := HH.out.cell 0
  have a1 : w4.cell? ⟨bq, 1, none⟩ = some (.int .u8 13) := HH.out.cell 1
  go_wp2_with fail
  refine (kf_takes_in _ _ _ _ [11, 13] _ _ _ 0 false rfl ((slice_has (l := [11, 13]) HH.out).below (by go_grown)) (by decide) (by decide) (by decide)).mono ?_
  rintro e w5 ⟨rfl, hb⟩
  clear c0 c1 c2 c3 a0 a1
  have T := below_on (w := w4) (by go_grown) hb
  have B5 := hide (below_on B4.out T)
  replace CC := hide (CC.out.below T CC.out.lt)
  clear T hb
  have c0 : w5.cell? ⟨w1.heap.size, 0, none⟩ = some (.slice (some ⟨bq, 0, none⟩) 2 2) := CC.out.cell 0
  have c1 : w5.cell? ⟨w1.heap.size, 1, none⟩ = some (.int .u8 7) := CC.out.cell 1
  have c2 : w5.cell? ⟨w1.heap.size, 2, none⟩ = some (.bool true) := CC.out.cell 2
  have c3 : w5.cell? ⟨w1.heap.size, 3, none⟩ = some (.bool true) := CC.out.cell 3
  go_wp2_with fail
  refine (kf_alive _).mono ?_
  rintro e w6 ⟨rfl, hb⟩
  have T := below_on (w := w5) (by go_grown) hb
  have B6 := hide (below_on B5.out T)
  clear T hb c0 c1 c2 c3
  go_wp2_with fail
  go_returns
  exact ⟨rfl, B6.out⟩

theorem ksound_out_17 (w : World) (other : Int) (ho : ¬ (1 ≤ other ∧ other ≤ 17)) :
    Calls Try.prog 7 #[.int .i32 17, .int .i32 other] w (KPost w) := by
  have hK : kfK 17 = ⟨⟨#[102, 105, 114, 115, 116]⟩, [11], 8, true, true⟩ := by kernel_rfl
  have HO := hide ho
  clear ho
  have HK := hide hK
  clear hK
  go_enter Try.func7, Try.ntmps7
  go_wp2_with fail
  refine (kf_in _ 17 _ HK.out (by decide)).mono ?_
  rintro e w1 ⟨v0, rfl, hA, hb⟩
  obtain ⟨bq, hbq, rfl, hH⟩ := Arg.more hA
  have HH := hide hH
  clear hA hH
  have B1 := hide hb
  clear hb
  go_wp2_with fail
  refine (kf_out _ other HO.out).mono ?_
  rintro e w2 ⟨v2, rfl, hA, hb⟩
  have T := below_on (w := w1) (by go_grown) hb
  have B2 := hide (below_on B1.out T)
  replace HH := hide (HH.out.below T HH.out.lt)
  have CC := hide ((Has.new w1 37 #[.slice (some ⟨bq, 0, none⟩) 1 1, .int .u8 8, .bool true, .bool true]).below hb (by simp))
  clear T
  clear hb
  obtain ⟨A2, n2, c2, rfl⟩ := Arg.slice hA
  clear hA
  go_wp2_with fail
  refine (kf_name_in _ 17 _ (congrArg KF.name HK.out)).mono ?_
  rintro e w3 ⟨rfl, hb⟩
  have T := below_on (w := w2) (by go_grown) hb
  have B3 := hide (below_on B2.out T)
  replace HH := hide (HH.out.below T HH.out.lt)
  replace CC := hide (CC.out.below T CC.out.lt)
  clear T
  clear hb
  go_wp2_with fail
  refine (kf_named_in _ ⟨#[102, 105, 114, 115, 116]⟩ 17 (by kernel_rfl) (by decide)).mono ?_
  rintro e w4 ⟨rfl, hb⟩
  have T := below_on (w := w3) (by go_grown) hb
  have B4 := hide (below_on B3.out T)
  replace HH := hide (HH.out.below T HH.out.lt)
  replace CC := hide (CC.out.below T CC.out.lt)
  clear T
  clear hb
  have c0 : w4.cell? ⟨w1.heap.size, 0, none⟩ = some (.slice (some ⟨bq, 0, none⟩) 1 1) := CC.out.cell 0
  have c1 : w4.cell? ⟨w1.heap.size, 1, none⟩ = some (.int .u8 8) := CC.out.cell 1
  have c2 : w4.cell? ⟨w1.heap.size, 2, none⟩ = some (.bool true) := CC.out.cell 2
  have c3 : w4.cell? ⟨w1.heap.size, 3, none⟩ = some (.bool true) := CC.out.cell 3
  have a0 : w4.cell? ⟨bq, 0, none⟩ = some (.int .u8 11) := HH.out.cell 0
  go_wp2_with fail
  refine (kf_takes_in _ _ _ _ [11] _ _ _ 0 false rfl ((slice_has (l := [11]) HH.out).below (by go_grown)) (by decide) (by decide) (by decide)).mono ?_
  rintro e w5 ⟨rfl, hb⟩
  clear c0 c1 c2 c3 a0
  have T := below_on (w := w4) (by go_grown) hb
  have B5 := hide (below_on B4.out T)
  replace CC := hide (CC.out.below T CC.out.lt)
  clear T hb
  have c0 : w5.cell? ⟨w1.heap.size, 0, none⟩ = some (.slice (some ⟨bq, 0, none⟩) 1 1) := CC.out.cell 0
  have c1 : w5.cell? ⟨w1.heap.size, 1, none⟩ = some (.int .u8 8) := CC.out.cell 1
  have c2 : w5.cell? ⟨w1.heap.size, 2, none⟩ = some (.bool true) := CC.out.cell 2
  have c3 : w5.cell? ⟨w1.heap.size, 3, none⟩ = some (.bool true) := CC.out.cell 3
  go_wp2_with fail
  refine (kf_alive _).mono ?_
  rintro e w6 ⟨rfl, hb⟩
  have T := below_on (w := w5) (by go_grown) hb
  have B6 := hide (below_on B5.out T)
  clear T hb c0 c1 c2 c3
  go_wp2_with fail
  go_returns
  exact ⟨rfl, B6.out⟩

end Go.Proofs.Ytdlgipoaimgbpaa
