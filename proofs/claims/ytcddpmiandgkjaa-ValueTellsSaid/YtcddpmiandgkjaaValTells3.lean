import Derived.Test.YtcddpmiandgkjaaValTells0
/-! The law ValueTells, walked. -/
namespace Go.Proofs.Ytcddpmiandgkjaa
open Go.RowKit
set_option maxHeartbeats 4000000
set_option maxRecDepth 100000
set_option linter.unusedSimpArgs false

theorem vtells_val (w : World) (s n x y o g s2 n2 x2 y2 o2 g2 : Int) (m l k : Int) (B : AV) (hA : V22.av ⟨s, n, x, y, o, g⟩ = .val m l k) (hB : V22.av ⟨s2, n2, x2, y2, o2, g2⟩ = B) :
    Calls Try.prog 9 #[.agg #[.int .u8 s, .int .u64 n, .int .i64 x, .int .i64 y, .int .i64 o, .int .u64 g], .agg #[.int .u8 s2, .int .u64 n2, .int .i64 x2, .int .i64 y2, .int .i64 o2, .int .u64 g2]] w fun e w' => e = .returned (.bool true) ∧ Below w.heap.size w w' := by
  have H1 := hide (fun w => val_any w ⟨s, n, x, y, o, g⟩)
  have H2 := hide (fun w => val_any w ⟨s2, n2, x2, y2, o2, g2⟩)
  have H3 := hide (fun w => val_clean w ⟨s, n, x, y, o, g⟩)
  have H4 := hide (fun w => val_clean w ⟨s2, n2, x2, y2, o2, g2⟩)
  have HP := hide (fun w => val_panics w ⟨s, n, x, y, o, g⟩ (fun k h => by rw [hA] at h; cases h))
  have HL := hide (fun w => val_alive w)
  have HN := hide (fun w => val_number w (.val m l k))
  have HO := hide (fun w => val_off w (.val m l k))
  have HI := hide (fun w => val_isv w (.val m l k))
  have HS := hide (fun w => val_same w (.val m l k) B)
  have HT := hide (fun w => val_pointer w (.val m l k))
  have HR := hide (fun w => ref_pointer w 5 0 m l k 0 (by decide))
  rw [hA] at H1 H3
  rw [hB] at H2 H4
  have hr := same_plain (.val m l k) B
  clear hA hB
  obtain ⟨q, hq⟩ : ∃ q, q = B.plain := ⟨_, rfl⟩
  rw [← hq] at H4 hr
  obtain ⟨qa, qb, qc, qd, qe, qf⟩ := q
  have HE := hide (fun w => eq_v22 w 5 0 m l k 0 qa qb qc qd qe qf)
  rw [show (AV.plain (.val m l k)) = (⟨5, 0, m, l, k, 0⟩ : V22) from rfl] at hr
  rw [← hr] at HE
  generalize AV.same (.val m l k) B = r at HS HE
  generalize AV.enc B = V2 at H2 HS
  have HR0 : ptrSort 5 = true := by decide
  rw [HR0] at HR
  clear hr hq HR0
  simp only [AV.enc, AV.plain, AV.isNum, AV.is, AV.at, Option.isSome, Option.getD, V22.agg, V22.none] at H1 H2 H3 H4 HP HN HO HI HS HT
  go_enter Try.func9, Try.ntmps9
  go_wp2_with fail
  obtain ⟨W0, hW0⟩ : ∃ W0, W0 = (w.alloc (.cells #[.int .u8 s, .int .u64 n, .int .i64 x, .int .i64 y, .int .i64 o, .int .u64 g] 25)).alloc (.cells #[.int .u8 s2, .int .u64 n2, .int .i64 x2, .int .i64 y2, .int .i64 o2, .int .u64 g2] 25) := ⟨_, rfl⟩
  have B0 : Hid (Below w.heap.size w W0) := by rw [hW0]; exact hide (by go_grown)
  have HV : Hid (Has W0 w.heap.size 25 #[.int .u8 s, .int .u64 n, .int .i64 x, .int .i64 y, .int .i64 o, .int .u64 g]) := by rw [hW0]; exact hide ((Has.new w _ _).alloc _)
  have HU : Hid (Has W0 (w.heap.size + 1) 25 #[.int .u8 s2, .int .u64 n2, .int .i64 x2, .int .i64 y2, .int .i64 o2, .int .u64 g2]) := by rw [hW0]; exact hide (Has.last _ _ _ (by simp))
  rw [← hW0]
  clear hW0
  have c0 : W0.cell? ⟨w.heap.size, 0, none⟩ = some (.int .u8 s) := HV.out.cell 0
  have c1 : W0.cell? ⟨w.heap.size, 1, none⟩ = some (.int .u64 n) := HV.out.cell 1
  have c2 : W0.cell? ⟨w.heap.size, 2, none⟩ = some (.int .i64 x) := HV.out.cell 2
  have c3 : W0.cell? ⟨w.heap.size, 3, none⟩ = some (.int .i64 y) := HV.out.cell 3
  have c4 : W0.cell? ⟨w.heap.size, 4, none⟩ = some (.int .i64 o) := HV.out.cell 4
  have c5 : W0.cell? ⟨w.heap.size, 5, none⟩ = some (.int .u64 g) := HV.out.cell 5
  have d0 : W0.cell? ⟨w.heap.size + 1, 0, none⟩ = some (.int .u8 s2) := HU.out.cell 0
  have d1 : W0.cell? ⟨w.heap.size + 1, 1, none⟩ = some (.int .u64 n2) := HU.out.cell 1
  have d2 : W0.cell? ⟨w.heap.size + 1, 2, none⟩ = some (.int .i64 x2) := HU.out.cell 2
  have d3 : W0.cell? ⟨w.heap.size + 1, 3, none⟩ = some (.int .i64 y2) := HU.out.cell 3
  have d4 : W0.cell? ⟨w.heap.size + 1, 4, none⟩ = some (.int .i64 o2) := HU.out.cell 4
  have d5 : W0.cell? ⟨w.heap.size + 1, 5, none⟩ = some (.int .u64 g2) := HU.out.cell 5
  go_region_held3 (fun w' => (w'.cell? ⟨w.heap.size, 0, none⟩ = some (.int .u8 s) ∧ w'.cell? ⟨w.heap.size, 1, none⟩ = some (.int .u64 n) ∧ w'.cell? ⟨w.heap.size, 2, none⟩ = some (.int .i64 x) ∧ w'.cell? ⟨w.heap.size, 3, none⟩ = some (.int .i64 y) ∧ w'.cell? ⟨w.heap.size, 4, none⟩ = some (.int .i64 o) ∧ w'.cell? ⟨w.heap.size, 5, none⟩ = some (.int .u64 g)) ∧
      (w'.cell? ⟨w.heap.size + 1, 0, none⟩ = some (.int .u8 s2) ∧ w'.cell? ⟨w.heap.size + 1, 1, none⟩ = some (.int .u64 n2) ∧ w'.cell? ⟨w.heap.size + 1, 2, none⟩ = some (.int .i64 x2) ∧ w'.cell? ⟨w.heap.size + 1, 3, none⟩ = some (.int .i64 y2) ∧ w'.cell? ⟨w.heap.size + 1, 4, none⟩ = some (.int .i64 o2) ∧ w'.cell? ⟨w.heap.size + 1, 5, none⟩ = some (.int .u64 g2)))
    (first
      | go_keep
      | (go_split_ands; refine ⟨⟨?_, ?_, ?_, ?_, ?_, ?_⟩, ?_, ?_, ?_, ?_, ?_, ?_⟩ <;> exact t6.cell (by assumption) (fun h => h))
      | (go_split_ands; refine ⟨⟨?_, ?_, ?_, ?_, ?_, ?_⟩, ?_, ?_, ?_, ?_, ?_, ?_⟩ <;> exact t5.cell (by assumption) (fun h => h))
      )
    (first
      | (go_at_call 13; (with_reducible refine (H1.out _).mono ?_); rintro e w4 ⟨rfl, hb⟩; have t5 := Turned.of_below (S := fun _ => False) hb; clear hb)
      | (go_at_call 13; (with_reducible refine (H2.out _).mono ?_); rintro e w5 ⟨rfl, hb⟩; have t6 := Turned.of_below (S := fun _ => False) hb; clear hb))
  have B5 := hide (B0.out.trans ((Below.drew (Below.refl w.heap.size W0)).trans ((t5.trans t6).below (B := w.heap.size) B0.out.size (fun k h => h.elim))))
  have T := t5.trans t6
  have HV5 := hide (HV.out.drew.turned T (fun h => h))
  have HU5 := hide (HU.out.drew.turned T (fun h => h))
  clear T
  clear t5 t6 HV HU B0 c0 c1 c2 c3 c4 c5 d0 d1 d2 d3 d4 d5
  rename_i hheld
  clear hheld
  go_wp2_with fail
  refine wp_region_grows [19, 20, 21, 22, 7, 8] (CleanPhi w5.heap.size (.agg #[.int .u8 s, .int .u64 n, .int .i64 x, .int .i64 y, .int .i64 o, .int .u64 g]) (.agg #[.int .u8 5, .int .u64 0, .int .i64 m, .int .i64 l, .int .i64 k, .int .u64 0]) (.agg #[.int .u8 s2, .int .u64 n2, .int .i64 x2, .int .i64 y2, .int .i64 o2, .int .u64 g2]) (.agg #[.int .u8 qa, .int .u64 qb, .int .i64 qc, .int .i64 qd, .int .i64 qe, .int .u64 qf])) newBlk (by kernel_rfl)
    (by simp) (by kernel_rfl) (by kernel_rfl) (by kernel_rfl) (by simp) (by decide) (cleanPhi_lasts _ _ _ _ _) (newBlk_lt _ _ _ _ _) ?_ ?_
  · refine ⟨⟨rfl, fun a' W hB hold he K hK => ?_⟩, ⟨rfl, fun a' W hB hold he K hK => ?_⟩, ⟨rfl, fun a' W hB hold he K hK => ?_⟩, ⟨rfl, fun a' W hB hold he K hK => ?_⟩, ⟨rfl, fun a' W hB hold he K hK => ?_⟩, ⟨rfl, fun a' W hB hold he K hK => ?_⟩, trivial⟩
    · exact wp_step_load 25 (.tmp 2) _ rfl _ (hold 2 (by decide)) (load_v22 W _ _ _ _ _ _ _ (HV5.out.below hB HV5.out.lt)) (hK _ _ (Below.refl _ _) rfl (fun b h => by simp [newBlk] at h))
    · have h19 : a'.eval (.tmp 19) = _ := he ⟨0, .data⟩ (by simp) rfl
      refine wp_step_call 14 #[_] ?_ ((H3.out W).mono ?_)
      · simp [execOp, go_sem, h19]
        simpa [Act.eval] using h19
      · rintro e w' ⟨rfl, hb⟩
        exact ⟨_, rfl, hK _ _ hb rfl (fun b h => by simp [newBlk] at h)⟩
    · exact wp_step_load 25 (.tmp 3) _ rfl _ (hold 3 (by decide)) (load_v22 W _ _ _ _ _ _ _ (HU5.out.below hB HU5.out.lt)) (hK _ _ (Below.refl _ _) rfl (fun b h => by simp [newBlk] at h))
    · have h21 : a'.eval (.tmp 21) = _ := he ⟨2, .data⟩ (by simp) rfl
      refine wp_step_call 14 #[_] ?_ ((H4.out W).mono ?_)
      · simp [execOp, go_sem, h21]
        simpa [Act.eval] using h21
      · rintro e w' ⟨rfl, hb⟩
        exact ⟨_, rfl, hK _ _ hb rfl (fun b h => by simp [newBlk] at h)⟩
    · exact wp_step_run _ (by kernel_rfl) (hK _ _ ((Below.refl _ _).alloc (Nat.le_refl _) _) ⟨_, hB.size, rfl, Has.new _ _ _⟩ (fun b h => by simp [newBlk] at h; omega))
    · exact wp_step_run _ (by kernel_rfl) (hK _ _ ((Below.refl _ _).alloc (Nat.le_refl _) _) ⟨_, hB.size, rfl, Has.new _ _ _⟩ (fun b h => by simp [newBlk] at h; omega))
  intro vs W hB hlen hvs hap
  obtain ⟨v0, v1, v2, v3, v4, v5, rfl⟩ : ∃ v0 v1 v2 v3 v4 v5, vs = [v0, v1, v2, v3, v4, v5] := by
    match vs, hlen with
    | [v0, v1, v2, v3, v4, v5], _ => exact ⟨_, _, _, _, _, _, rfl⟩
  obtain rfl : v0 = _ := hvs 0 v0 rfl
  obtain rfl : v1 = _ := hvs 1 v1 rfl
  obtain rfl : v2 = _ := hvs 2 v2 rfl
  obtain rfl : v3 = _ := hvs 3 v3 rfl
  obtain ⟨bx, hbx, rfl, hX⟩ : NewV w5.heap.size v4 W := hvs 4 v4 rfl
  obtain ⟨bz, hbz, rfl, hY⟩ : NewV w5.heap.size v5 W := hvs 5 v5 rfl
  have hne : bx ≠ bz := hap 4 5 _ _ (by decide) rfl rfl bx bz rfl rfl
  clear hvs hap hlen
  have B6 := hide (B5.out.trans (hB.mono B5.out.size))
  have HV6 := hide (HV5.out.below hB HV5.out.lt)
  have hbx1 : w.heap.size ≠ bx := by have := HV5.out.lt; omega
  have hbz1 : w.heap.size ≠ bz := by have := HV5.out.lt; omega
  have hbx2 : w.heap.size ≤ bx := by have := B5.out.size; omega
  have hbz2 : w.heap.size ≤ bz := by have := B5.out.size; omega
  clear hB HV5 HU5 B5 hbx hbz
  have HX := hide hX
  have HY := hide hY
  have hne' : bz ≠ bx := fun h => hne h.symm
  clear hX hY
  simp only [putAll, List.length_cons, List.length_nil, Nat.reduceAdd, List.drop_succ_cons, List.drop_zero]
  have cx0 : W.cell? ⟨bx, 0, none⟩ = some (.int .u8 0) := HX.out.cell 0
  have cx1 : W.cell? ⟨bx, 1, none⟩ = some (.int .u64 0) := HX.out.cell 1
  have cx2 : W.cell? ⟨bx, 2, none⟩ = some (.int .i64 0) := HX.out.cell 2
  have cx3 : W.cell? ⟨bx, 3, none⟩ = some (.int .i64 0) := HX.out.cell 3
  have cx4 : W.cell? ⟨bx, 4, none⟩ = some (.int .i64 0) := HX.out.cell 4
  have cx5 : W.cell? ⟨bx, 5, none⟩ = some (.int .u64 0) := HX.out.cell 5
  have cz0 : W.cell? ⟨bz, 0, none⟩ = some (.int .u8 0) := HY.out.cell 0
  have cz1 : W.cell? ⟨bz, 1, none⟩ = some (.int .u64 0) := HY.out.cell 1
  have cz2 : W.cell? ⟨bz, 2, none⟩ = some (.int .i64 0) := HY.out.cell 2
  have cz3 : W.cell? ⟨bz, 3, none⟩ = some (.int .i64 0) := HY.out.cell 3
  have cz4 : W.cell? ⟨bz, 4, none⟩ = some (.int .i64 0) := HY.out.cell 4
  have cz5 : W.cell? ⟨bz, 5, none⟩ = some (.int .u64 0) := HY.out.cell 5
  have fx0 := HX.out.free 0
  have fz0 := HY.out.free 0
  have fx1 := HX.out.free 1
  have fz1 := HY.out.free 1
  have fx2 := HX.out.free 2
  have fz2 := HY.out.free 2
  have fx3 := HX.out.free 3
  have fz3 := HY.out.free 3
  have fx4 := HX.out.free 4
  have fz4 := HY.out.free 4
  have fx5 := HX.out.free 5
  have fz5 := HY.out.free 5
  go_wp2_with fail
  obtain ⟨W7, hW7⟩ : ∃ W7, W7 = ((((((((((((W.setCell ⟨bx, 0, none⟩ (.int .u8 5)).setCell ⟨bx, 1, none⟩ (.int .u64 0)).setCell ⟨bx, 2, none⟩ (.int .i64 m)).setCell ⟨bx, 3, none⟩ (.int .i64 l)).setCell ⟨bx, 4, none⟩ (.int .i64 k)).setCell ⟨bx, 5, none⟩ (.int .u64 0)).setCell ⟨bz, 0, none⟩ (.int .u8 qa)).setCell ⟨bz, 1, none⟩ (.int .u64 qb)).setCell ⟨bz, 2, none⟩ (.int .i64 qc)).setCell ⟨bz, 3, none⟩ (.int .i64 qd)).setCell ⟨bz, 4, none⟩ (.int .i64 qe)).setCell ⟨bz, 5, none⟩ (.int .u64 qf)) := ⟨_, rfl⟩
  have X7 : Hid (Has W7 bx 25 #[.int .u8 5, .int .u64 0, .int .i64 m, .int .i64 l, .int .i64 k, .int .u64 0]) := by rw [hW7]; exact hide ((((((((((((HX.out.set 0 (.int .u8 5)).set 1 (.int .u64 0)).set 2 (.int .i64 m)).set 3 (.int .i64 l)).set 4 (.int .i64 k)).set 5 (.int .u64 0)).far (p := ⟨bz, 0, none⟩) hne (.int .u8 qa)).far (p := ⟨bz, 1, none⟩) hne (.int .u64 qb)).far (p := ⟨bz, 2, none⟩) hne (.int .i64 qc)).far (p := ⟨bz, 3, none⟩) hne (.int .i64 qd)).far (p := ⟨bz, 4, none⟩) hne (.int .i64 qe)).far (p := ⟨bz, 5, none⟩) hne (.int .u64 qf))
  have Z7 : Hid (Has W7 bz 25 #[.int .u8 qa, .int .u64 qb, .int .i64 qc, .int .i64 qd, .int .i64 qe, .int .u64 qf]) := by rw [hW7]; exact hide ((((((((((((HY.out.far (p := ⟨bx, 0, none⟩) hne' (.int .u8 5)).far (p := ⟨bx, 1, none⟩) hne' (.int .u64 0)).far (p := ⟨bx, 2, none⟩) hne' (.int .i64 m)).far (p := ⟨bx, 3, none⟩) hne' (.int .i64 l)).far (p := ⟨bx, 4, none⟩) hne' (.int .i64 k)).far (p := ⟨bx, 5, none⟩) hne' (.int .u64 0)).set 0 (.int .u8 qa)).set 1 (.int .u64 qb)).set 2 (.int .i64 qc)).set 3 (.int .i64 qd)).set 4 (.int .i64 qe)).set 5 (.int .u64 qf))
  have V7 : Hid (Has W7 w.heap.size 25 #[.int .u8 s, .int .u64 n, .int .i64 x, .int .i64 y, .int .i64 o, .int .u64 g]) := by rw [hW7]; exact hide ((((((((((((HV6.out.far (p := ⟨bx, 0, none⟩) hbx1 (.int .u8 5)).far (p := ⟨bx, 1, none⟩) hbx1 (.int .u64 0)).far (p := ⟨bx, 2, none⟩) hbx1 (.int .i64 m)).far (p := ⟨bx, 3, none⟩) hbx1 (.int .i64 l)).far (p := ⟨bx, 4, none⟩) hbx1 (.int .i64 k)).far (p := ⟨bx, 5, none⟩) hbx1 (.int .u64 0)).far (p := ⟨bz, 0, none⟩) hbz1 (.int .u8 qa)).far (p := ⟨bz, 1, none⟩) hbz1 (.int .u64 qb)).far (p := ⟨bz, 2, none⟩) hbz1 (.int .i64 qc)).far (p := ⟨bz, 3, none⟩) hbz1 (.int .i64 qd)).far (p := ⟨bz, 4, none⟩) hbz1 (.int .i64 qe)).far (p := ⟨bz, 5, none⟩) hbz1 (.int .u64 qf))
  have B7 : Hid (Below w.heap.size w W7) := by rw [hW7]; exact hide ((((((((((((B6.out.setCell (p := ⟨bx, 0, none⟩) hbx2 (.int .u8 5)).setCell (p := ⟨bx, 1, none⟩) hbx2 (.int .u64 0)).setCell (p := ⟨bx, 2, none⟩) hbx2 (.int .i64 m)).setCell (p := ⟨bx, 3, none⟩) hbx2 (.int .i64 l)).setCell (p := ⟨bx, 4, none⟩) hbx2 (.int .i64 k)).setCell (p := ⟨bx, 5, none⟩) hbx2 (.int .u64 0)).setCell (p := ⟨bz, 0, none⟩) hbz2 (.int .u8 qa)).setCell (p := ⟨bz, 1, none⟩) hbz2 (.int .u64 qb)).setCell (p := ⟨bz, 2, none⟩) hbz2 (.int .i64 qc)).setCell (p := ⟨bz, 3, none⟩) hbz2 (.int .i64 qd)).setCell (p := ⟨bz, 4, none⟩) hbz2 (.int .i64 qe)).setCell (p := ⟨bz, 5, none⟩) hbz2 (.int .u64 qf))
  rw [← hW7]
  clear hW7 HX HY HV6 B6 cx0 cx1 cx2 cx3 cx4 cx5 cz0 cz1 cz2 cz3 cz4 cz5 fx0 fx1 fx2 fx3 fx4 fx5 fz0 fz1 fz2 fz3 fz4 fz5 hne hne' hbx1 hbz1 hbx2 hbz2
  refine (HN.out _).mono ?_
  rintro e1 w1 ⟨rfl, rfl⟩
  go_wp2_with fail
  refine (HO.out _).mono ?_
  rintro e1 w8 ⟨rfl, hb⟩
  have X8 := hide (X7.out.below hb X7.out.lt)
  have Z8 := hide (Z7.out.below hb Z7.out.lt)
  have V8 := hide (V7.out.below hb V7.out.lt)
  have B8 := hide (below_on B7.out hb)
  clear hb X7 Z7 V7 B7
  have cx0 : w8.cell? ⟨bx, 0, none⟩ = some (.int .u8 5) := X8.out.cell 0
  have cx1 : w8.cell? ⟨bx, 1, none⟩ = some (.int .u64 0) := X8.out.cell 1
  have cx2 : w8.cell? ⟨bx, 2, none⟩ = some (.int .i64 m) := X8.out.cell 2
  have cx3 : w8.cell? ⟨bx, 3, none⟩ = some (.int .i64 l) := X8.out.cell 3
  have cx4 : w8.cell? ⟨bx, 4, none⟩ = some (.int .i64 k) := X8.out.cell 4
  have cx5 : w8.cell? ⟨bx, 5, none⟩ = some (.int .u64 0) := X8.out.cell 5
  go_wp2_with fail
  refine (HR.out _).mono ?_
  rintro e1 w9 ⟨rfl, hb⟩
  have X9 := hide (X8.out.below hb X8.out.lt)
  have Z9 := hide (Z8.out.below hb Z8.out.lt)
  have HV := hide (V8.out.below hb V8.out.lt)
  have B := below_on B8.out hb
  clear hb X8 Z8 V8 B8 cx0 cx1 cx2 cx3 cx4 cx5
  have cx0 : w9.cell? ⟨bx, 0, none⟩ = some (.int .u8 5) := X9.out.cell 0
  have cx1 : w9.cell? ⟨bx, 1, none⟩ = some (.int .u64 0) := X9.out.cell 1
  have cx2 : w9.cell? ⟨bx, 2, none⟩ = some (.int .i64 m) := X9.out.cell 2
  have cx3 : w9.cell? ⟨bx, 3, none⟩ = some (.int .i64 l) := X9.out.cell 3
  have cx4 : w9.cell? ⟨bx, 4, none⟩ = some (.int .i64 k) := X9.out.cell 4
  have cx5 : w9.cell? ⟨bx, 5, none⟩ = some (.int .u64 0) := X9.out.cell 5
  go_wp2_with fail
  clear cx0 cx1 cx2 cx3 cx4 cx5
  refine wp_region_fixed [40, 41, 42, 43, 44, 45, 46, 47, 48, 49, 50, 51, 52, 53, 54, 55, 56, 57, 58, 59, 60, 61, 62, 63, 64, 65, 66, 67, 68, 69, 70, 71, 72, 73, 74, 75, 76, 77, 78, 79, 80, 81, 82, 83, 84, 85, 86, 87, 88, 89, 90, 91, 92, 93]
    [(.iface 90 (.agg #[.int .i64 m, .int .i64 l, .int .i64 k])), .bool true, .pointer (some ⟨bx, 0, none⟩), .int .u8 5, .bool true, .bool false, .bool false, (.iface 90 (.agg #[.int .i64 m, .int .i64 l, .int .i64 k])), V2, .bool r, .agg #[.int .u8 5, .int .u64 0, .int .i64 m, .int .i64 l, .int .i64 k, .int .u64 0], .agg #[.int .u8 qa, .int .u64 qb, .int .i64 qc, .int .i64 qd, .int .i64 qe, .int .u64 qf], .bool r, .bool false, .bool false, .bool false, .bool false, .bool false, .bool false, .bool false, .bool false, .bool false, .bool false, undef, undef, undef, undef, .bool false, .bool false, .bool false, .bool false, .bool true, .bool true, .int .u64 0, .bool false, .bool false, .bool false, .bool false, (.iface 90 (.agg #[.int .i64 m, .int .i64 l, .int .i64 k])), .bool true, .agg #[.int .u8 5, .int .u64 0, .int .i64 m, .int .i64 l, .int .i64 k, .int .u64 0], .bool true, .bool false, .bool false, .bool false, .bool true, .agg #[.int .u8 5, .int .u64 0, .int .i64 m, .int .i64 l, .int .i64 k, .int .u64 0], .bool true, .bool false, .bool false, .bool false, .int .i64 k, .int .i64 k, .bool false] (by kernel_rfl) (by simp) rfl (by kernel_rfl) (by kernel_rfl) (by kernel_rfl) (by simp) (by decide) ?_ ?_
  · refine ⟨?_, ?_, ?_, ?_, ?_, ?_, ?_, ?_, ?_, ?_, ?_, ?_, ?_, ?_, ?_, ?_, ?_, ?_, ?_, ?_, ?_, ?_, ?_, ?_, ?_, ?_, ?_, ?_, ?_, ?_, ?_, ?_, ?_, ?_, ?_, ?_, ?_, ?_, ?_, ?_, ?_, ?_, ?_, ?_, ?_, ?_, ?_, ?_, ?_, ?_, ?_, ?_, ?_, ?_, trivial⟩
    · exact .inl ⟨.inl rfl, fun a' W hB hold he K hK => fx_move (.tmp 5) _ (.inl rfl) (hold 5 (by decide)) (hK _ (Below.refl _ _))⟩
    · exact .inl ⟨.inl rfl, fun a' W hB hold he K hK => (by have h0 : a'.eval (.tmp 40) = _ := (he ⟨0, .data⟩ (by simp) rfl); exact wp_step_call 34 #[_] (by simp only [execOp, h0]; simp [go_sem]; simp_all [Act.eval]) ((HI.out W).mono (by rintro e1 w' ⟨rfl, hb⟩; exact ⟨_, rfl, hK _ hb⟩)))⟩
    · exact .inl ⟨.inl rfl, fun a' W hB hold he K hK => fx_field 25 (.tmp 7) 0 _ _ rfl (hold 7 (by decide)) (by kernel_rfl) (hK _ (Below.refl _ _))⟩
    · exact .inl ⟨.inl rfl, fun a' W hB hold he K hK => wp_step_load 5 (.tmp 42) _ rfl _ (he ⟨2, .data⟩ (by simp) rfl) (by have c0 : W.cell? ⟨bx, 0, none⟩ = some (.int .u8 5) := (X9.out.below hB X9.out.lt).cell 0; go_simp) (hK _ (Below.refl _ _))⟩
    · exact .inl ⟨.inl rfl, fun a' W hB hold he K hK => fx_bin .neq 5 5 (.tmp 43) (.const (.int .u8 0)) _ _ _ rfl (he ⟨3, .data⟩ (by simp) rfl) rfl (by kernel_rfl) (by kernel_rfl) (hK _ (Below.refl _ _))⟩
    · exact .inl ⟨.inl rfl, fun a' W hB hold he K hK => fx_bin .neq 4 4 (.tmp 41) (.tmp 44) _ _ _ rfl (he ⟨1, .data⟩ (by simp) rfl) (he ⟨4, .data⟩ (by simp) rfl) (by kernel_rfl) (by kernel_rfl) (hK _ (Below.refl _ _))⟩
    · exact .inl ⟨.inl rfl, fun a' W hB hold he K hK => fx_move (.tmp 45) _ (.inl rfl) (he ⟨5, .data⟩ (by simp) rfl) (hK _ (Below.refl _ _))⟩
    · exact .inl ⟨.inr ⟨6, false, _, rfl, ⟨⟨6, .guard⟩, by simp, rfl, rfl⟩, rfl, rfl, by decide, rfl⟩, fun a' W hB hold he K hK => fx_move (.tmp 5) _ (.inl rfl) (hold 5 (by decide)) (hK _ (Below.refl _ _))⟩
    · exact .inl ⟨.inr ⟨6, false, _, rfl, ⟨⟨6, .guard⟩, by simp, rfl, rfl⟩, rfl, rfl, by decide, rfl⟩, fun a' W hB hold he K hK => fx_move (.tmp 6) _ (.inl rfl) (hold 6 (by decide)) (hK _ (Below.refl _ _))⟩
    · exact .inl ⟨.inr ⟨6, false, _, rfl, ⟨⟨6, .guard⟩, by simp, rfl, rfl⟩, rfl, rfl, by decide, rfl⟩, fun a' W hB hold he K hK => (by have h0 : a'.eval (.tmp 47) = _ := (he ⟨7, .data⟩ (by simp) rfl); have h1 : a'.eval (.tmp 48) = _ := (he ⟨8, .data⟩ (by simp) rfl); exact wp_step_call 35 #[_, _] (by simp only [execOp, h0, h1]; simp [go_sem]; simp_all [Act.eval]) ((HS.out W).mono (by rintro e1 w' ⟨rfl, hb⟩; exact ⟨_, rfl, hK _ hb⟩)))⟩
    · exact .inl ⟨.inr ⟨6, false, _, rfl, ⟨⟨6, .guard⟩, by simp, rfl, rfl⟩, rfl, rfl, by decide, rfl⟩, fun a' W hB hold he K hK => wp_step_load 25 (.tmp 7) _ rfl _ (hold 7 (by decide)) (load_v22 W _ _ _ _ _ _ _ (X9.out.below hB X9.out.lt)) (hK _ (Below.refl _ _))⟩
    · exact .inl ⟨.inr ⟨6, false, _, rfl, ⟨⟨6, .guard⟩, by simp, rfl, rfl⟩, rfl, rfl, by decide, rfl⟩, fun a' W hB hold he K hK => wp_step_load 25 (.tmp 8) _ rfl _ (hold 8 (by decide)) (load_v22 W _ _ _ _ _ _ _ (Z9.out.below hB Z9.out.lt)) (hK _ (Below.refl _ _))⟩
    · exact .inl ⟨.inr ⟨6, false, _, rfl, ⟨⟨6, .guard⟩, by simp, rfl, rfl⟩, rfl, rfl, by decide, rfl⟩, fun a' W hB hold he K hK => fx_bin .eql 25 25 (.tmp 50) (.tmp 51) _ _ _ rfl (he ⟨10, .data⟩ (by simp) rfl) (he ⟨11, .data⟩ (by simp) rfl) (by go_simp) (HE.out W) (hK _ (Below.refl _ _))⟩
    · exact .inl ⟨.inr ⟨6, false, _, rfl, ⟨⟨6, .guard⟩, by simp, rfl, rfl⟩, rfl, rfl, by decide, rfl⟩, fun a' W hB hold he K hK => fx_bin .neq 4 4 (.tmp 49) (.tmp 52) _ _ _ rfl (he ⟨9, .data⟩ (by simp) rfl) (he ⟨12, .data⟩ (by simp) rfl) (by kernel_rfl) (by cases r <;> kernel_rfl) (hK _ (Below.refl _ _))⟩
    · exact .inl ⟨.inl rfl, fun a' W hB hold he K hK => fx_pick (.tmp 46) (.const (.bool true)) (.tmp 53) false _ rfl (he ⟨6, .data⟩ (by simp) rfl) (he ⟨13, .data⟩ (by simp) rfl) (hK _ (Below.refl _ _))⟩
    · exact .inl ⟨.inl rfl, fun a' W hB hold he K hK => fx_move (.tmp 54) _ (.inl rfl) (he ⟨14, .data⟩ (by simp) rfl) (hK _ (Below.refl _ _))⟩
    · exact .inl ⟨.inr ⟨15, false, _, rfl, ⟨⟨15, .guard⟩, by simp, rfl, rfl⟩, rfl, rfl, by decide, rfl⟩, fun a' W hB hold he K hK => fx_move (.tmp 10) _ (.inl rfl) (hold 10 (by decide)) (hK _ (Below.refl _ _))⟩
    · exact .inl ⟨.inr ⟨15, false, _, rfl, ⟨⟨15, .guard⟩, by simp, rfl, rfl⟩, rfl, rfl, by decide, rfl⟩, fun a' W hB hold he K hK => fx_move (.tmp 14) _ (.inl rfl) (hold 14 (by decide)) (hK _ (Below.refl _ _))⟩
    · exact .inl ⟨.inr ⟨15, false, _, rfl, ⟨⟨15, .guard⟩, by simp, rfl, rfl⟩, rfl, rfl, by decide, rfl⟩, fun a' W hB hold he K hK => fx_bin .neq 4 4 (.tmp 56) (.tmp 57) _ _ _ rfl (he ⟨16, .data⟩ (by simp) rfl) (he ⟨17, .data⟩ (by simp) rfl) (by kernel_rfl) (by kernel_rfl) (hK _ (Below.refl _ _))⟩
    · exact .inl ⟨.inl rfl, fun a' W hB hold he K hK => fx_pick (.tmp 55) (.const (.bool true)) (.tmp 58) false _ rfl (he ⟨15, .data⟩ (by simp) rfl) (he ⟨18, .data⟩ (by simp) rfl) (hK _ (Below.refl _ _))⟩
    · exact .inl ⟨.inl rfl, fun a' W hB hold he K hK => fx_move (.tmp 59) _ (.inl rfl) (he ⟨19, .data⟩ (by simp) rfl) (hK _ (Below.refl _ _))⟩
    · exact .inl ⟨.inr ⟨20, false, _, rfl, ⟨⟨20, .guard⟩, by simp, rfl, rfl⟩, rfl, rfl, by decide, rfl⟩, fun a' W hB hold he K hK => fx_move (.tmp 14) _ (.inl rfl) (hold 14 (by decide)) (hK _ (Below.refl _ _))⟩
    · exact .inl ⟨.inr ⟨20, false, _, rfl, ⟨⟨20, .guard⟩, by simp, rfl, rfl⟩, rfl, rfl, by decide, rfl⟩, fun a' W hB hold he K hK => fx_move (.tmp 61) _ (.inl rfl) (he ⟨21, .data⟩ (by simp) rfl) (hK _ (Below.refl _ _))⟩
    · exact .inr ⟨rfl, rfl, 22, true, _, rfl, ⟨⟨22, .guard⟩, by simp, rfl, rfl⟩, rfl, rfl, by decide, by intro h; cases h⟩
    · exact .inr ⟨rfl, rfl, 22, true, _, rfl, ⟨⟨22, .guard⟩, by simp, rfl, rfl⟩, rfl, rfl, by decide, by intro h; cases h⟩
    · exact .inr ⟨rfl, rfl, 22, true, _, rfl, ⟨⟨22, .guard⟩, by simp, rfl, rfl⟩, rfl, rfl, by decide, by intro h; cases h⟩
    · exact .inr ⟨rfl, rfl, 22, true, _, rfl, ⟨⟨22, .guard⟩, by simp, rfl, rfl⟩, rfl, rfl, by decide, by intro h; cases h⟩
    · exact .inl ⟨.inr ⟨20, false, _, rfl, ⟨⟨20, .guard⟩, by simp, rfl, rfl⟩, rfl, rfl, by decide, rfl⟩, fun a' W hB hold he K hK => fx_pick (.tmp 62) (.tmp 66) (.const (.bool false)) false _ rfl (he ⟨22, .data⟩ (by simp) rfl) rfl (hK _ (Below.refl _ _))⟩
    · exact .inl ⟨.inl rfl, fun a' W hB hold he K hK => fx_pick (.tmp 60) (.const (.bool true)) (.tmp 67) false _ rfl (he ⟨20, .data⟩ (by simp) rfl) (he ⟨27, .data⟩ (by simp) rfl) (hK _ (Below.refl _ _))⟩
    · exact .inl ⟨.inl rfl, fun a' W hB hold he K hK => fx_move (.tmp 68) _ (.inl rfl) (he ⟨28, .data⟩ (by simp) rfl) (hK _ (Below.refl _ _))⟩
    · exact .inl ⟨.inr ⟨29, false, _, rfl, ⟨⟨29, .guard⟩, by simp, rfl, rfl⟩, rfl, rfl, by decide, rfl⟩, fun a' W hB hold he K hK => fx_move (.tmp 14) _ (.inl rfl) (hold 14 (by decide)) (hK _ (Below.refl _ _))⟩
    · exact .inl ⟨.inr ⟨29, false, _, rfl, ⟨⟨29, .guard⟩, by simp, rfl, rfl⟩, rfl, rfl, by decide, rfl⟩, fun a' W hB hold he K hK => fx_not 4 (.tmp 70) _ rfl (he ⟨30, .data⟩ (by simp) rfl) (hK _ (Below.refl _ _))⟩
    · exact .inl ⟨.inr ⟨29, false, _, rfl, ⟨⟨29, .guard⟩, by simp, rfl, rfl⟩, rfl, rfl, by decide, rfl⟩, fun a' W hB hold he K hK => fx_move (.tmp 71) _ (.inl rfl) (he ⟨31, .data⟩ (by simp) rfl) (hK _ (Below.refl _ _))⟩
    · exact .inl ⟨.inr ⟨32, true, _, rfl, ⟨⟨32, .guard⟩, by simp, rfl, rfl⟩, rfl, rfl, by decide, rfl⟩, fun a' W hB hold he K hK => fx_move (.tmp 9) _ (.inl rfl) (hold 9 (by decide)) (hK _ (Below.refl _ _))⟩
    · exact .inl ⟨.inr ⟨32, true, _, rfl, ⟨⟨32, .guard⟩, by simp, rfl, rfl⟩, rfl, rfl, by decide, rfl⟩, fun a' W hB hold he K hK => fx_bin .neq 23 23 (.tmp 73) (.const (.int .u64 0)) _ _ _ rfl (he ⟨33, .data⟩ (by simp) rfl) rfl (by kernel_rfl) (by kernel_rfl) (hK _ (Below.refl _ _))⟩
    · exact .inl ⟨.inr ⟨29, false, _, rfl, ⟨⟨29, .guard⟩, by simp, rfl, rfl⟩, rfl, rfl, by decide, rfl⟩, fun a' W hB hold he K hK => fx_pick (.tmp 72) (.tmp 74) (.const (.bool false)) true _ rfl (he ⟨32, .data⟩ (by simp) rfl) (he ⟨34, .data⟩ (by simp) rfl) (hK _ (Below.refl _ _))⟩
    · exact .inl ⟨.inl rfl, fun a' W hB hold he K hK => fx_pick (.tmp 69) (.const (.bool true)) (.tmp 75) false _ rfl (he ⟨29, .data⟩ (by simp) rfl) (he ⟨35, .data⟩ (by simp) rfl) (hK _ (Below.refl _ _))⟩
    · exact .inl ⟨.inl rfl, fun a' W hB hold he K hK => fx_move (.tmp 76) _ (.inl rfl) (he ⟨36, .data⟩ (by simp) rfl) (hK _ (Below.refl _ _))⟩
    · exact .inl ⟨.inr ⟨37, false, _, rfl, ⟨⟨37, .guard⟩, by simp, rfl, rfl⟩, rfl, rfl, by decide, rfl⟩, fun a' W hB hold he K hK => fx_move (.tmp 5) _ (.inl rfl) (hold 5 (by decide)) (hK _ (Below.refl _ _))⟩
    · exact .inl ⟨.inr ⟨37, false, _, rfl, ⟨⟨37, .guard⟩, by simp, rfl, rfl⟩, rfl, rfl, by decide, rfl⟩, fun a' W hB hold he K hK => (by have h0 : a'.eval (.tmp 78) = _ := (he ⟨38, .data⟩ (by simp) rfl); exact wp_step_call 36 #[_] (by simp only [execOp, h0]; simp [go_sem]; simp_all [Act.eval]) ((HT.out W).mono (by rintro e1 w' ⟨rfl, hb⟩; exact ⟨_, rfl, hK _ hb⟩)))⟩
    · exact .inl ⟨.inr ⟨37, false, _, rfl, ⟨⟨37, .guard⟩, by simp, rfl, rfl⟩, rfl, rfl, by decide, rfl⟩, fun a' W hB hold he K hK => wp_step_load 25 (.tmp 7) _ rfl _ (hold 7 (by decide)) (load_v22 W _ _ _ _ _ _ _ (X9.out.below hB X9.out.lt)) (hK _ (Below.refl _ _))⟩
    · exact .inl ⟨.inr ⟨37, false, _, rfl, ⟨⟨37, .guard⟩, by simp, rfl, rfl⟩, rfl, rfl, by decide, rfl⟩, fun a' W hB hold he K hK => (by have h0 : a'.eval (.tmp 80) = _ := (he ⟨40, .data⟩ (by simp) rfl); exact wp_step_call 33 #[_] (by simp only [execOp, h0]; simp [go_sem]; simp_all [Act.eval]) ((HR.out W).mono (by rintro e1 w' ⟨rfl, hb⟩; exact ⟨_, rfl, hK _ hb⟩)))⟩
    · exact .inl ⟨.inr ⟨37, false, _, rfl, ⟨⟨37, .guard⟩, by simp, rfl, rfl⟩, rfl, rfl, by decide, rfl⟩, fun a' W hB hold he K hK => fx_bin .neq 4 4 (.tmp 79) (.tmp 81) _ _ _ rfl (he ⟨39, .data⟩ (by simp) rfl) (he ⟨41, .data⟩ (by simp) rfl) (by kernel_rfl) (by kernel_rfl) (hK _ (Below.refl _ _))⟩
    · exact .inl ⟨.inl rfl, fun a' W hB hold he K hK => fx_pick (.tmp 77) (.const (.bool true)) (.tmp 82) false _ rfl (he ⟨37, .data⟩ (by simp) rfl) (he ⟨42, .data⟩ (by simp) rfl) (hK _ (Below.refl _ _))⟩
    · exact .inl ⟨.inl rfl, fun a' W hB hold he K hK => fx_move (.tmp 83) _ (.inl rfl) (he ⟨43, .data⟩ (by simp) rfl) (hK _ (Below.refl _ _))⟩
    · exact .inl ⟨.inr ⟨44, false, _, rfl, ⟨⟨44, .guard⟩, by simp, rfl, rfl⟩, rfl, rfl, by decide, rfl⟩, fun a' W hB hold he K hK => fx_move (.tmp 12) _ (.inl rfl) (hold 12 (by decide)) (hK _ (Below.refl _ _))⟩
    · exact .inl ⟨.inr ⟨44, false, _, rfl, ⟨⟨44, .guard⟩, by simp, rfl, rfl⟩, rfl, rfl, by decide, rfl⟩, fun a' W hB hold he K hK => wp_step_load 25 (.tmp 7) _ rfl _ (hold 7 (by decide)) (load_v22 W _ _ _ _ _ _ _ (X9.out.below hB X9.out.lt)) (hK _ (Below.refl _ _))⟩
    · exact .inl ⟨.inr ⟨44, false, _, rfl, ⟨⟨44, .guard⟩, by simp, rfl, rfl⟩, rfl, rfl, by decide, rfl⟩, fun a' W hB hold he K hK => (by have h0 : a'.eval (.tmp 86) = _ := (he ⟨46, .data⟩ (by simp) rfl); exact wp_step_call 33 #[_] (by simp only [execOp, h0]; simp [go_sem]; simp_all [Act.eval]) ((HR.out W).mono (by rintro e1 w' ⟨rfl, hb⟩; exact ⟨_, rfl, hK _ hb⟩)))⟩
    · exact .inl ⟨.inr ⟨44, false, _, rfl, ⟨⟨44, .guard⟩, by simp, rfl, rfl⟩, rfl, rfl, by decide, rfl⟩, fun a' W hB hold he K hK => fx_bin .neq 4 4 (.tmp 85) (.tmp 87) _ _ _ rfl (he ⟨45, .data⟩ (by simp) rfl) (he ⟨47, .data⟩ (by simp) rfl) (by kernel_rfl) (by kernel_rfl) (hK _ (Below.refl _ _))⟩
    · exact .inl ⟨.inl rfl, fun a' W hB hold he K hK => fx_pick (.tmp 84) (.const (.bool true)) (.tmp 88) false _ rfl (he ⟨44, .data⟩ (by simp) rfl) (he ⟨48, .data⟩ (by simp) rfl) (hK _ (Below.refl _ _))⟩
    · exact .inl ⟨.inl rfl, fun a' W hB hold he K hK => fx_move (.tmp 89) _ (.inl rfl) (he ⟨49, .data⟩ (by simp) rfl) (hK _ (Below.refl _ _))⟩
    · exact .inl ⟨.inr ⟨50, false, _, rfl, ⟨⟨50, .guard⟩, by simp, rfl, rfl⟩, rfl, rfl, by decide, rfl⟩, fun a' W hB hold he K hK => fx_move (.tmp 11) _ (.inl rfl) (hold 11 (by decide)) (hK _ (Below.refl _ _))⟩
    · exact .inl ⟨.inr ⟨50, false, _, rfl, ⟨⟨50, .guard⟩, by simp, rfl, rfl⟩, rfl, rfl, by decide, rfl⟩, fun a' W hB hold he K hK => fx_move (.tmp 13) _ (.inl rfl) (hold 13 (by decide)) (hK _ (Below.refl _ _))⟩
    · exact .inl ⟨.inr ⟨50, false, _, rfl, ⟨⟨50, .guard⟩, by simp, rfl, rfl⟩, rfl, rfl, by decide, rfl⟩, fun a' W hB hold he K hK => fx_bin .neq 3 3 (.tmp 91) (.tmp 92) _ _ _ rfl (he ⟨51, .data⟩ (by simp) rfl) (he ⟨52, .data⟩ (by simp) rfl) (by kernel_rfl) (by go_simp) (hK _ (Below.refl _ _))⟩
  intro W10 hb
  have HV := hide (HV.out.below hb HV.out.lt)
  have B := hide ((below_on B hb))
  clear hb X9 Z9
  have cv0 : W10.cell? ⟨w.heap.size, 0, none⟩ = some (.int .u8 s) := HV.out.cell 0
  have cv1 : W10.cell? ⟨w.heap.size, 1, none⟩ = some (.int .u64 n) := HV.out.cell 1
  have cv2 : W10.cell? ⟨w.heap.size, 2, none⟩ = some (.int .i64 x) := HV.out.cell 2
  have cv3 : W10.cell? ⟨w.heap.size, 3, none⟩ = some (.int .i64 y) := HV.out.cell 3
  have cv4 : W10.cell? ⟨w.heap.size, 4, none⟩ = some (.int .i64 o) := HV.out.cell 4
  have cv5 : W10.cell? ⟨w.heap.size, 5, none⟩ = some (.int .u64 g) := HV.out.cell 5
  simp only [putAll, List.length_cons, List.length_nil, Nat.reduceAdd, List.drop_succ_cons, List.drop_zero]
  go_wp2_with fail
  refine (HP.out _).mono ?_
  rintro e1 w11 ⟨rfl, hb⟩
  have B11 := hide (below_on B.out hb)
  clear hb cv0 cv1 cv2 cv3 cv4 cv5
  go_wp2_with fail
  refine (HL.out _).mono ?_
  rintro e1 w12 ⟨rfl, hb⟩
  have B12 := hide (below_on B11.out hb)
  clear hb
  go_wp2_with fail
  go_returns
  exact ⟨rfl, B12.out⟩

theorem vtells_obj (w : World) (s n x y o g s2 n2 x2 y2 o2 g2 : Int) (l j k e : Int) (B : AV) (hA : V22.av ⟨s, n, x, y, o, g⟩ = .obj l j k e) (hB : V22.av ⟨s2, n2, x2, y2, o2, g2⟩ = B) :
    Calls Try.prog 9 #[.agg #[.int .u8 s, .int .u64 n, .int .i64 x, .int .i64 y, .int .i64 o, .int .u64 g], .agg #[.int .u8 s2, .int .u64 n2, .int .i64 x2, .int .i64 y2, .int .i64 o2, .int .u64 g2]] w fun e w' => e = .returned (.bool true) ∧ Below w.heap.size w w' := by
  have H1 := hide (fun w => val_any w ⟨s, n, x, y, o, g⟩)
  have H2 := hide (fun w => val_any w ⟨s2, n2, x2, y2, o2, g2⟩)
  have H3 := hide (fun w => val_clean w ⟨s, n, x, y, o, g⟩)
  have H4 := hide (fun w => val_clean w ⟨s2, n2, x2, y2, o2, g2⟩)
  have HP := hide (fun w => val_panics w ⟨s, n, x, y, o, g⟩ (fun k h => by rw [hA] at h; cases h))
  have HL := hide (fun w => val_alive w)
  have HN := hide (fun w => val_number w (.obj l j k e))
  have HO := hide (fun w => val_off w (.obj l j k e))
  have HI := hide (fun w => val_isv w (.obj l j k e))
  have HS := hide (fun w => val_same w (.obj l j k e) B)
  have HT := hide (fun w => val_pointer w (.obj l j k e))
  have HR := hide (fun w => ref_pointer w 6 e l 0 k j (by decide))
  rw [hA] at H1 H3
  rw [hB] at H2 H4
  have hr := same_plain (.obj l j k e) B
  clear hA hB
  obtain ⟨q, hq⟩ : ∃ q, q = B.plain := ⟨_, rfl⟩
  rw [← hq] at H4 hr
  obtain ⟨qa, qb, qc, qd, qe, qf⟩ := q
  have HE := hide (fun w => eq_v22 w 6 e l 0 k j qa qb qc qd qe qf)
  rw [show (AV.plain (.obj l j k e)) = (⟨6, e, l, 0, k, j⟩ : V22) from rfl] at hr
  rw [← hr] at HE
  generalize AV.same (.obj l j k e) B = r at HS HE
  generalize AV.enc B = V2 at H2 HS
  have HR0 : ptrSort 6 = true := by decide
  rw [HR0] at HR
  clear hr hq HR0
  simp only [AV.enc, AV.plain, AV.isNum, AV.is, AV.at, Option.isSome, Option.getD, V22.agg, V22.none] at H1 H2 H3 H4 HP HN HO HI HS HT
  go_enter Try.func9, Try.ntmps9
  go_wp2_with fail
  obtain ⟨W0, hW0⟩ : ∃ W0, W0 = (w.alloc (.cells #[.int .u8 s, .int .u64 n, .int .i64 x, .int .i64 y, .int .i64 o, .int .u64 g] 25)).alloc (.cells #[.int .u8 s2, .int .u64 n2, .int .i64 x2, .int .i64 y2, .int .i64 o2, .int .u64 g2] 25) := ⟨_, rfl⟩
  have B0 : Hid (Below w.heap.size w W0) := by rw [hW0]; exact hide (by go_grown)
  have HV : Hid (Has W0 w.heap.size 25 #[.int .u8 s, .int .u64 n, .int .i64 x, .int .i64 y, .int .i64 o, .int .u64 g]) := by rw [hW0]; exact hide ((Has.new w _ _).alloc _)
  have HU : Hid (Has W0 (w.heap.size + 1) 25 #[.int .u8 s2, .int .u64 n2, .int .i64 x2, .int .i64 y2, .int .i64 o2, .int .u64 g2]) := by rw [hW0]; exact hide (Has.last _ _ _ (by simp))
  rw [← hW0]
  clear hW0
  have c0 : W0.cell? ⟨w.heap.size, 0, none⟩ = some (.int .u8 s) := HV.out.cell 0
  have c1 : W0.cell? ⟨w.heap.size, 1, none⟩ = some (.int .u64 n) := HV.out.cell 1
  have c2 : W0.cell? ⟨w.heap.size, 2, none⟩ = some (.int .i64 x) := HV.out.cell 2
  have c3 : W0.cell? ⟨w.heap.size, 3, none⟩ = some (.int .i64 y) := HV.out.cell 3
  have c4 : W0.cell? ⟨w.heap.size, 4, none⟩ = some (.int .i64 o) := HV.out.cell 4
  have c5 : W0.cell? ⟨w.heap.size, 5, none⟩ = some (.int .u64 g) := HV.out.cell 5
  have d0 : W0.cell? ⟨w.heap.size + 1, 0, none⟩ = some (.int .u8 s2) := HU.out.cell 0
  have d1 : W0.cell? ⟨w.heap.size + 1, 1, none⟩ = some (.int .u64 n2) := HU.out.cell 1
  have d2 : W0.cell? ⟨w.heap.size + 1, 2, none⟩ = some (.int .i64 x2) := HU.out.cell 2
  have d3 : W0.cell? ⟨w.heap.size + 1, 3, none⟩ = some (.int .i64 y2) := HU.out.cell 3
  have d4 : W0.cell? ⟨w.heap.size + 1, 4, none⟩ = some (.int .i64 o2) := HU.out.cell 4
  have d5 : W0.cell? ⟨w.heap.size + 1, 5, none⟩ = some (.int .u64 g2) := HU.out.cell 5
  go_region_held3 (fun w' => (w'.cell? ⟨w.heap.size, 0, none⟩ = some (.int .u8 s) ∧ w'.cell? ⟨w.heap.size, 1, none⟩ = some (.int .u64 n) ∧ w'.cell? ⟨w.heap.size, 2, none⟩ = some (.int .i64 x) ∧ w'.cell? ⟨w.heap.size, 3, none⟩ = some (.int .i64 y) ∧ w'.cell? ⟨w.heap.size, 4, none⟩ = some (.int .i64 o) ∧ w'.cell? ⟨w.heap.size, 5, none⟩ = some (.int .u64 g)) ∧
      (w'.cell? ⟨w.heap.size + 1, 0, none⟩ = some (.int .u8 s2) ∧ w'.cell? ⟨w.heap.size + 1, 1, none⟩ = some (.int .u64 n2) ∧ w'.cell? ⟨w.heap.size + 1, 2, none⟩ = some (.int .i64 x2) ∧ w'.cell? ⟨w.heap.size + 1, 3, none⟩ = some (.int .i64 y2) ∧ w'.cell? ⟨w.heap.size + 1, 4, none⟩ = some (.int .i64 o2) ∧ w'.cell? ⟨w.heap.size + 1, 5, none⟩ = some (.int .u64 g2)))
    (first
      | go_keep
      | (go_split_ands; refine ⟨⟨?_, ?_, ?_, ?_, ?_, ?_⟩, ?_, ?_, ?_, ?_, ?_, ?_⟩ <;> exact t6.cell (by assumption) (fun h => h))
      | (go_split_ands; refine ⟨⟨?_, ?_, ?_, ?_, ?_, ?_⟩, ?_, ?_, ?_, ?_, ?_, ?_⟩ <;> exact t5.cell (by assumption) (fun h => h))
      )
    (first
      | (go_at_call 13; (with_reducible refine (H1.out _).mono ?_); rintro e w4 ⟨rfl, hb⟩; have t5 := Turned.of_below (S := fun _ => False) hb; clear hb)
      | (go_at_call 13; (with_reducible refine (H2.out _).mono ?_); rintro e w5 ⟨rfl, hb⟩; have t6 := Turned.of_below (S := fun _ => False) hb; clear hb))
  have B5 := hide (B0.out.trans ((Below.drew (Below.refl w.heap.size W0)).trans ((t5.trans t6).below (B := w.heap.size) B0.out.size (fun k h => h.elim))))
  have T := t5.trans t6
  have HV5 := hide (HV.out.drew.turned T (fun h => h))
  have HU5 := hide (HU.out.drew.turned T (fun h => h))
  clear T
  clear t5 t6 HV HU B0 c0 c1 c2 c3 c4 c5 d0 d1 d2 d3 d4 d5
  rename_i hheld
  clear hheld
  go_wp2_with fail
  refine wp_region_grows [19, 20, 21, 22, 7, 8] (CleanPhi w5.heap.size (.agg #[.int .u8 s, .int .u64 n, .int .i64 x, .int .i64 y, .int .i64 o, .int .u64 g]) (.agg #[.int .u8 6, .int .u64 e, .int .i64 l, .int .i64 0, .int .i64 k, .int .u64 j]) (.agg #[.int .u8 s2, .int .u64 n2, .int .i64 x2, .int .i64 y2, .int .i64 o2, .int .u64 g2]) (.agg #[.int .u8 qa, .int .u64 qb, .int .i64 qc, .int .i64 qd, .int .i64 qe, .int .u64 qf])) newBlk (by kernel_rfl)
    (by simp) (by kernel_rfl) (by kernel_rfl) (by kernel_rfl) (by simp) (by decide) (cleanPhi_lasts _ _ _ _ _) (newBlk_lt _ _ _ _ _) ?_ ?_
  · refine ⟨⟨rfl, fun a' W hB hold he K hK => ?_⟩, ⟨rfl, fun a' W hB hold he K hK => ?_⟩, ⟨rfl, fun a' W hB hold he K hK => ?_⟩, ⟨rfl, fun a' W hB hold he K hK => ?_⟩, ⟨rfl, fun a' W hB hold he K hK => ?_⟩, ⟨rfl, fun a' W hB hold he K hK => ?_⟩, trivial⟩
    · exact wp_step_load 25 (.tmp 2) _ rfl _ (hold 2 (by decide)) (load_v22 W _ _ _ _ _ _ _ (HV5.out.below hB HV5.out.lt)) (hK _ _ (Below.refl _ _) rfl (fun b h => by simp [newBlk] at h))
    · have h19 : a'.eval (.tmp 19) = _ := he ⟨0, .data⟩ (by simp) rfl
      refine wp_step_call 14 #[_] ?_ ((H3.out W).mono ?_)
      · simp [execOp, go_sem, h19]
        simpa [Act.eval] using h19
      · rintro e w' ⟨rfl, hb⟩
        exact ⟨_, rfl, hK _ _ hb rfl (fun b h => by simp [newBlk] at h)⟩
    · exact wp_step_load 25 (.tmp 3) _ rfl _ (hold 3 (by decide)) (load_v22 W _ _ _ _ _ _ _ (HU5.out.below hB HU5.out.lt)) (hK _ _ (Below.refl _ _) rfl (fun b h => by simp [newBlk] at h))
    · have h21 : a'.eval (.tmp 21) = _ := he ⟨2, .data⟩ (by simp) rfl
      refine wp_step_call 14 #[_] ?_ ((H4.out W).mono ?_)
      · simp [execOp, go_sem, h21]
        simpa [Act.eval] using h21
      · rintro e w' ⟨rfl, hb⟩
        exact ⟨_, rfl, hK _ _ hb rfl (fun b h => by simp [newBlk] at h)⟩
    · exact wp_step_run _ (by kernel_rfl) (hK _ _ ((Below.refl _ _).alloc (Nat.le_refl _) _) ⟨_, hB.size, rfl, Has.new _ _ _⟩ (fun b h => by simp [newBlk] at h; omega))
    · exact wp_step_run _ (by kernel_rfl) (hK _ _ ((Below.refl _ _).alloc (Nat.le_refl _) _) ⟨_, hB.size, rfl, Has.new _ _ _⟩ (fun b h => by simp [newBlk] at h; omega))
  intro vs W hB hlen hvs hap
  obtain ⟨v0, v1, v2, v3, v4, v5, rfl⟩ : ∃ v0 v1 v2 v3 v4 v5, vs = [v0, v1, v2, v3, v4, v5] := by
    match vs, hlen with
    | [v0, v1, v2, v3, v4, v5], _ => exact ⟨_, _, _, _, _, _, rfl⟩
  obtain rfl : v0 = _ := hvs 0 v0 rfl
  obtain rfl : v1 = _ := hvs 1 v1 rfl
  obtain rfl : v2 = _ := hvs 2 v2 rfl
  obtain rfl : v3 = _ := hvs 3 v3 rfl
  obtain ⟨bx, hbx, rfl, hX⟩ : NewV w5.heap.size v4 W := hvs 4 v4 rfl
  obtain ⟨bz, hbz, rfl, hY⟩ : NewV w5.heap.size v5 W := hvs 5 v5 rfl
  have hne : bx ≠ bz := hap 4 5 _ _ (by decide) rfl rfl bx bz rfl rfl
  clear hvs hap hlen
  have B6 := hide (B5.out.trans (hB.mono B5.out.size))
  have HV6 := hide (HV5.out.below hB HV5.out.lt)
  have hbx1 : w.heap.size ≠ bx := by have := HV5.out.lt; omega
  have hbz1 : w.heap.size ≠ bz := by have := HV5.out.lt; omega
  have hbx2 : w.heap.size ≤ bx := by have := B5.out.size; omega
  have hbz2 : w.heap.size ≤ bz := by have := B5.out.size; omega
  clear hB HV5 HU5 B5 hbx hbz
  have HX := hide hX
  have HY := hide hY
  have hne' : bz ≠ bx := fun h => hne h.symm
  clear hX hY
  simp only [putAll, List.length_cons, List.length_nil, Nat.reduceAdd, List.drop_succ_cons, List.drop_zero]
  have cx0 : W.cell? ⟨bx, 0, none⟩ = some (.int .u8 0) := HX.out.cell 0
  have cx1 : W.cell? ⟨bx, 1, none⟩ = some (.int .u64 0) := HX.out.cell 1
  have cx2 : W.cell? ⟨bx, 2, none⟩ = some (.int .i64 0) := HX.out.cell 2
  have cx3 : W.cell? ⟨bx, 3, none⟩ = some (.int .i64 0) := HX.out.cell 3
  have cx4 : W.cell? ⟨bx, 4, none⟩ = some (.int .i64 0) := HX.out.cell 4
  have cx5 : W.cell? ⟨bx, 5, none⟩ = some (.int .u64 0) := HX.out.cell 5
  have cz0 : W.cell? ⟨bz, 0, none⟩ = some (.int .u8 0) := HY.out.cell 0
  have cz1 : W.cell? ⟨bz, 1, none⟩ = some (.int .u64 0) := HY.out.cell 1
  have cz2 : W.cell? ⟨bz, 2, none⟩ = some (.int .i64 0) := HY.out.cell 2
  have cz3 : W.cell? ⟨bz, 3, none⟩ = some (.int .i64 0) := HY.out.cell 3
  have cz4 : W.cell? ⟨bz, 4, none⟩ = some (.int .i64 0) := HY.out.cell 4
  have cz5 : W.cell? ⟨bz, 5, none⟩ = some (.int .u64 0) := HY.out.cell 5
  have fx0 := HX.out.free 0
  have fz0 := HY.out.free 0
  have fx1 := HX.out.free 1
  have fz1 := HY.out.free 1
  have fx2 := HX.out.free 2
  have fz2 := HY.out.free 2
  have fx3 := HX.out.free 3
  have fz3 := HY.out.free 3
  have fx4 := HX.out.free 4
  have fz4 := HY.out.free 4
  have fx5 := HX.out.free 5
  have fz5 := HY.out.free 5
  go_wp2_with fail
  obtain ⟨W7, hW7⟩ : ∃ W7, W7 = ((((((((((((W.setCell ⟨bx, 0, none⟩ (.int .u8 6)).setCell ⟨bx, 1, none⟩ (.int .u64 e)).setCell ⟨bx, 2, none⟩ (.int .i64 l)).setCell ⟨bx, 3, none⟩ (.int .i64 0)).setCell ⟨bx, 4, none⟩ (.int .i64 k)).setCell ⟨bx, 5, none⟩ (.int .u64 j)).setCell ⟨bz, 0, none⟩ (.int .u8 qa)).setCell ⟨bz, 1, none⟩ (.int .u64 qb)).setCell ⟨bz, 2, none⟩ (.int .i64 qc)).setCell ⟨bz, 3, none⟩ (.int .i64 qd)).setCell ⟨bz, 4, none⟩ (.int .i64 qe)).setCell ⟨bz, 5, none⟩ (.int .u64 qf)) := ⟨_, rfl⟩
  have X7 : Hid (Has W7 bx 25 #[.int .u8 6, .int .u64 e, .int .i64 l, .int .i64 0, .int .i64 k, .int .u64 j]) := by rw [hW7]; exact hide ((((((((((((HX.out.set 0 (.int .u8 6)).set 1 (.int .u64 e)).set 2 (.int .i64 l)).set 3 (.int .i64 0)).set 4 (.int .i64 k)).set 5 (.int .u64 j)).far (p := ⟨bz, 0, none⟩) hne (.int .u8 qa)).far (p := ⟨bz, 1, none⟩) hne (.int .u64 qb)).far (p := ⟨bz, 2, none⟩) hne (.int .i64 qc)).far (p := ⟨bz, 3, none⟩) hne (.int .i64 qd)).far (p := ⟨bz, 4, none⟩) hne (.int .i64 qe)).far (p := ⟨bz, 5, none⟩) hne (.int .u64 qf))
  have Z7 : Hid (Has W7 bz 25 #[.int .u8 qa, .int .u64 qb, .int .i64 qc, .int .i64 qd, .int .i64 qe, .int .u64 qf]) := by rw [hW7]; exact hide ((((((((((((HY.out.far (p := ⟨bx, 0, none⟩) hne' (.int .u8 6)).far (p := ⟨bx, 1, none⟩) hne' (.int .u64 e)).far (p := ⟨bx, 2, none⟩) hne' (.int .i64 l)).far (p := ⟨bx, 3, none⟩) hne' (.int .i64 0)).far (p := ⟨bx, 4, none⟩) hne' (.int .i64 k)).far (p := ⟨bx, 5, none⟩) hne' (.int .u64 j)).set 0 (.int .u8 qa)).set 1 (.int .u64 qb)).set 2 (.int .i64 qc)).set 3 (.int .i64 qd)).set 4 (.int .i64 qe)).set 5 (.int .u64 qf))
  have V7 : Hid (Has W7 w.heap.size 25 #[.int .u8 s, .int .u64 n, .int .i64 x, .int .i64 y, .int .i64 o, .int .u64 g]) := by rw [hW7]; exact hide ((((((((((((HV6.out.far (p := ⟨bx, 0, none⟩) hbx1 (.int .u8 6)).far (p := ⟨bx, 1, none⟩) hbx1 (.int .u64 e)).far (p := ⟨bx, 2, none⟩) hbx1 (.int .i64 l)).far (p := ⟨bx, 3, none⟩) hbx1 (.int .i64 0)).far (p := ⟨bx, 4, none⟩) hbx1 (.int .i64 k)).far (p := ⟨bx, 5, none⟩) hbx1 (.int .u64 j)).far (p := ⟨bz, 0, none⟩) hbz1 (.int .u8 qa)).far (p := ⟨bz, 1, none⟩) hbz1 (.int .u64 qb)).far (p := ⟨bz, 2, none⟩) hbz1 (.int .i64 qc)).far (p := ⟨bz, 3, none⟩) hbz1 (.int .i64 qd)).far (p := ⟨bz, 4, none⟩) hbz1 (.int .i64 qe)).far (p := ⟨bz, 5, none⟩) hbz1 (.int .u64 qf))
  have B7 : Hid (Below w.heap.size w W7) := by rw [hW7]; exact hide ((((((((((((B6.out.setCell (p := ⟨bx, 0, none⟩) hbx2 (.int .u8 6)).setCell (p := ⟨bx, 1, none⟩) hbx2 (.int .u64 e)).setCell (p := ⟨bx, 2, none⟩) hbx2 (.int .i64 l)).setCell (p := ⟨bx, 3, none⟩) hbx2 (.int .i64 0)).setCell (p := ⟨bx, 4, none⟩) hbx2 (.int .i64 k)).setCell (p := ⟨bx, 5, none⟩) hbx2 (.int .u64 j)).setCell (p := ⟨bz, 0, none⟩) hbz2 (.int .u8 qa)).setCell (p := ⟨bz, 1, none⟩) hbz2 (.int .u64 qb)).setCell (p := ⟨bz, 2, none⟩) hbz2 (.int .i64 qc)).setCell (p := ⟨bz, 3, none⟩) hbz2 (.int .i64 qd)).setCell (p := ⟨bz, 4, none⟩) hbz2 (.int .i64 qe)).setCell (p := ⟨bz, 5, none⟩) hbz2 (.int .u64 qf))
  rw [← hW7]
  clear hW7 HX HY HV6 B6 cx0 cx1 cx2 cx3 cx4 cx5 cz0 cz1 cz2 cz3 cz4 cz5 fx0 fx1 fx2 fx3 fx4 fx5 fz0 fz1 fz2 fz3 fz4 fz5 hne hne' hbx1 hbz1 hbx2 hbz2
  refine (HN.out _).mono ?_
  rintro e1 w1 ⟨rfl, rfl⟩
  go_wp2_with fail
  refine (HO.out _).mono ?_
  rintro e1 w8 ⟨rfl, hb⟩
  have X8 := hide (X7.out.below hb X7.out.lt)
  have Z8 := hide (Z7.out.below hb Z7.out.lt)
  have V8 := hide (V7.out.below hb V7.out.lt)
  have B8 := hide (below_on B7.out hb)
  clear hb X7 Z7 V7 B7
  have cx0 : w8.cell? ⟨bx, 0, none⟩ = some (.int .u8 6) := X8.out.cell 0
  have cx1 : w8.cell? ⟨bx, 1, none⟩ = some (.int .u64 e) := X8.out.cell 1
  have cx2 : w8.cell? ⟨bx, 2, none⟩ = some (.int .i64 l) := X8.out.cell 2
  have cx3 : w8.cell? ⟨bx, 3, none⟩ = some (.int .i64 0) := X8.out.cell 3
  have cx4 : w8.cell? ⟨bx, 4, none⟩ = some (.int .i64 k) := X8.out.cell 4
  have cx5 : w8.cell? ⟨bx, 5, none⟩ = some (.int .u64 j) := X8.out.cell 5
  go_wp2_with fail
  refine (HR.out _).mono ?_
  rintro e1 w9 ⟨rfl, hb⟩
  have X9 := hide (X8.out.below hb X8.out.lt)
  have Z9 := hide (Z8.out.below hb Z8.out.lt)
  have HV := hide (V8.out.below hb V8.out.lt)
  have B := below_on B8.out hb
  clear hb X8 Z8 V8 B8 cx0 cx1 cx2 cx3 cx4 cx5
  have cx0 : w9.cell? ⟨bx, 0, none⟩ = some (.int .u8 6) := X9.out.cell 0
  have cx1 : w9.cell? ⟨bx, 1, none⟩ = some (.int .u64 e) := X9.out.cell 1
  have cx2 : w9.cell? ⟨bx, 2, none⟩ = some (.int .i64 l) := X9.out.cell 2
  have cx3 : w9.cell? ⟨bx, 3, none⟩ = some (.int .i64 0) := X9.out.cell 3
  have cx4 : w9.cell? ⟨bx, 4, none⟩ = some (.int .i64 k) := X9.out.cell 4
  have cx5 : w9.cell? ⟨bx, 5, none⟩ = some (.int .u64 j) := X9.out.cell 5
  go_wp2_with fail
  clear cx0 cx1 cx2 cx3 cx4 cx5
  refine wp_region_fixed [40, 41, 42, 43, 44, 45, 46, 47, 48, 49, 50, 51, 52, 53, 54, 55, 56, 57, 58, 59, 60, 61, 62, 63, 64, 65, 66, 67, 68, 69, 70, 71, 72, 73, 74, 75, 76, 77, 78, 79, 80, 81, 82, 83, 84, 85, 86, 87, 88, 89, 90, 91, 92, 93]
    [(.iface 94 (.agg #[.int .i64 l, .int .u64 j, .int .i64 k, .int .u64 e])), .bool true, .pointer (some ⟨bx, 0, none⟩), .int .u8 6, .bool true, .bool false, .bool false, (.iface 94 (.agg #[.int .i64 l, .int .u64 j, .int .i64 k, .int .u64 e])), V2, .bool r, .agg #[.int .u8 6, .int .u64 e, .int .i64 l, .int .i64 0, .int .i64 k, .int .u64 j], .agg #[.int .u8 qa, .int .u64 qb, .int .i64 qc, .int .i64 qd, .int .i64 qe, .int .u64 qf], .bool r, .bool false, .bool false, .bool false, .bool false, .bool false, .bool false, .bool false, .bool false, .bool false, .bool false, undef, undef, undef, undef, .bool false, .bool false, .bool false, .bool false, .bool true, .bool true, .int .u64 0, .bool false, .bool false, .bool false, .bool false, (.iface 94 (.agg #[.int .i64 l, .int .u64 j, .int .i64 k, .int .u64 e])), .bool true, .agg #[.int .u8 6, .int .u64 e, .int .i64 l, .int .i64 0, .int .i64 k, .int .u64 j], .bool true, .bool false, .bool false, .bool false, .bool true, .agg #[.int .u8 6, .int .u64 e, .int .i64 l, .int .i64 0, .int .i64 k, .int .u64 j], .bool true, .bool false, .bool false, .bool false, .int .i64 k, .int .i64 k, .bool false] (by kernel_rfl) (by simp) rfl (by kernel_rfl) (by kernel_rfl) (by kernel_rfl) (by simp) (by decide) ?_ ?_
  · refine ⟨?_, ?_, ?_, ?_, ?_, ?_, ?_, ?_, ?_, ?_, ?_, ?_, ?_, ?_, ?_, ?_, ?_, ?_, ?_, ?_, ?_, ?_, ?_, ?_, ?_, ?_, ?_, ?_, ?_, ?_, ?_, ?_, ?_, ?_, ?_, ?_, ?_, ?_, ?_, ?_, ?_, ?_, ?_, ?_, ?_, ?_, ?_, ?_, ?_, ?_, ?_, ?_, ?_, ?_, trivial⟩
    · exact .inl ⟨.inl rfl, fun a' W hB hold he K hK => fx_move (.tmp 5) _ (.inl rfl) (hold 5 (by decide)) (hK _ (Below.refl _ _))⟩
    · exact .inl ⟨.inl rfl, fun a' W hB hold he K hK => (by have h0 : a'.eval (.tmp 40) = _ := (he ⟨0, .data⟩ (by simp) rfl); exact wp_step_call 34 #[_] (by simp only [execOp, h0]; simp [go_sem]; simp_all [Act.eval]) ((HI.out W).mono (by rintro e1 w' ⟨rfl, hb⟩; exact ⟨_, rfl, hK _ hb⟩)))⟩
    · exact .inl ⟨.inl rfl, fun a' W hB hold he K hK => fx_field 25 (.tmp 7) 0 _ _ rfl (hold 7 (by decide)) (by kernel_rfl) (hK _ (Below.refl _ _))⟩
    · exact .inl ⟨.inl rfl, fun a' W hB hold he K hK => wp_step_load 5 (.tmp 42) _ rfl _ (he ⟨2, .data⟩ (by simp) rfl) (by have c0 : W.cell? ⟨bx, 0, none⟩ = some (.int .u8 6) := (X9.out.below hB X9.out.lt).cell 0; go_simp) (hK _ (Below.refl _ _))⟩
    · exact .inl ⟨.inl rfl, fun a' W hB hold he K hK => fx_bin .neq 5 5 (.tmp 43) (.const (.int .u8 0)) _ _ _ rfl (he ⟨3, .data⟩ (by simp) rfl) rfl (by kernel_rfl) (by kernel_rfl) (hK _ (Below.refl _ _))⟩
    · exact .inl ⟨.inl rfl, fun a' W hB hold he K hK => fx_bin .neq 4 4 (.tmp 41) (.tmp 44) _ _ _ rfl (he ⟨1, .data⟩ (by simp) rfl) (he ⟨4, .data⟩ (by simp) rfl) (by kernel_rfl) (by kernel_rfl) (hK _ (Below.refl _ _))⟩
    · exact .inl ⟨.inl rfl, fun a' W hB hold he K hK => fx_move (.tmp 45) _ (.inl rfl) (he ⟨5, .data⟩ (by simp) rfl) (hK _ (Below.refl _ _))⟩
    · exact .inl ⟨.inr ⟨6, false, _, rfl, ⟨⟨6, .guard⟩, by simp, rfl, rfl⟩, rfl, rfl, by decide, rfl⟩, fun a' W hB hold he K hK => fx_move (.tmp 5) _ (.inl rfl) (hold 5 (by decide)) (hK _ (Below.refl _ _))⟩
    · exact .inl ⟨.inr ⟨6, false, _, rfl, ⟨⟨6, .guard⟩, by simp, rfl, rfl⟩, rfl, rfl, by decide, rfl⟩, fun a' W hB hold he K hK => fx_move (.tmp 6) _ (.inl rfl) (hold 6 (by decide)) (hK _ (Below.refl _ _))⟩
    · exact .inl ⟨.inr ⟨6, false, _, rfl, ⟨⟨6, .guard⟩, by simp, rfl, rfl⟩, rfl, rfl, by decide, rfl⟩, fun a' W hB hold he K hK => (by have h0 : a'.eval (.tmp 47) = _ := (he ⟨7, .data⟩ (by simp) rfl); have h1 : a'.eval (.tmp 48) = _ := (he ⟨8, .data⟩ (by simp) rfl); exact wp_step_call 35 #[_, _] (by simp only [execOp, h0, h1]; simp [go_sem]; simp_all [Act.eval]) ((HS.out W).mono (by rintro e1 w' ⟨rfl, hb⟩; exact ⟨_, rfl, hK _ hb⟩)))⟩
    · exact .inl ⟨.inr ⟨6, false, _, rfl, ⟨⟨6, .guard⟩, by simp, rfl, rfl⟩, rfl, rfl, by decide, rfl⟩, fun a' W hB hold he K hK => wp_step_load 25 (.tmp 7) _ rfl _ (hold 7 (by decide)) (load_v22 W _ _ _ _ _ _ _ (X9.out.below hB X9.out.lt)) (hK _ (Below.refl _ _))⟩
    · exact .inl ⟨.inr ⟨6, false, _, rfl, ⟨⟨6, .guard⟩, by simp, rfl, rfl⟩, rfl, rfl, by decide, rfl⟩, fun a' W hB hold he K hK => wp_step_load 25 (.tmp 8) _ rfl _ (hold 8 (by decide)) (load_v22 W _ _ _ _ _ _ _ (Z9.out.below hB Z9.out.lt)) (hK _ (Below.refl _ _))⟩
    · exact .inl ⟨.inr ⟨6, false, _, rfl, ⟨⟨6, .guard⟩, by simp, rfl, rfl⟩, rfl, rfl, by decide, rfl⟩, fun a' W hB hold he K hK => fx_bin .eql 25 25 (.tmp 50) (.tmp 51) _ _ _ rfl (he ⟨10, .data⟩ (by simp) rfl) (he ⟨11, .data⟩ (by simp) rfl) (by go_simp) (HE.out W) (hK _ (Below.refl _ _))⟩
    · exact .inl ⟨.inr ⟨6, false, _, rfl, ⟨⟨6, .guard⟩, by simp, rfl, rfl⟩, rfl, rfl, by decide, rfl⟩, fun a' W hB hold he K hK => fx_bin .neq 4 4 (.tmp 49) (.tmp 52) _ _ _ rfl (he ⟨9, .data⟩ (by simp) rfl) (he ⟨12, .data⟩ (by simp) rfl) (by kernel_rfl) (by cases r <;> kernel_rfl) (hK _ (Below.refl _ _))⟩
    · exact .inl ⟨.inl rfl, fun a' W hB hold he K hK => fx_pick (.tmp 46) (.const (.bool true)) (.tmp 53) false _ rfl (he ⟨6, .data⟩ (by simp) rfl) (he ⟨13, .data⟩ (by simp) rfl) (hK _ (Below.refl _ _))⟩
    · exact .inl ⟨.inl rfl, fun a' W hB hold he K hK => fx_move (.tmp 54) _ (.inl rfl) (he ⟨14, .data⟩ (by simp) rfl) (hK _ (Below.refl _ _))⟩
    · exact .inl ⟨.inr ⟨15, false, _, rfl, ⟨⟨15, .guard⟩, by simp, rfl, rfl⟩, rfl, rfl, by decide, rfl⟩, fun a' W hB hold he K hK => fx_move (.tmp 10) _ (.inl rfl) (hold 10 (by decide)) (hK _ (Below.refl _ _))⟩
    · exact .inl ⟨.inr ⟨15, false, _, rfl, ⟨⟨15, .guard⟩, by simp, rfl, rfl⟩, rfl, rfl, by decide, rfl⟩, fun a' W hB hold he K hK => fx_move (.tmp 14) _ (.inl rfl) (hold 14 (by decide)) (hK _ (Below.refl _ _))⟩
    · exact .inl ⟨.inr ⟨15, false, _, rfl, ⟨⟨15, .guard⟩, by simp, rfl, rfl⟩, rfl, rfl, by decide, rfl⟩, fun a' W hB hold he K hK => fx_bin .neq 4 4 (.tmp 56) (.tmp 57) _ _ _ rfl (he ⟨16, .data⟩ (by simp) rfl) (he ⟨17, .data⟩ (by simp) rfl) (by kernel_rfl) (by kernel_rfl) (hK _ (Below.refl _ _))⟩
    · exact .inl ⟨.inl rfl, fun a' W hB hold he K hK => fx_pick (.tmp 55) (.const (.bool true)) (.tmp 58) false _ rfl (he ⟨15, .data⟩ (by simp) rfl) (he ⟨18, .data⟩ (by simp) rfl) (hK _ (Below.refl _ _))⟩
    · exact .inl ⟨.inl rfl, fun a' W hB hold he K hK => fx_move (.tmp 59) _ (.inl rfl) (he ⟨19, .data⟩ (by simp) rfl) (hK _ (Below.refl _ _))⟩
    · exact .inl ⟨.inr ⟨20, false, _, rfl, ⟨⟨20, .guard⟩, by simp, rfl, rfl⟩, rfl, rfl, by decide, rfl⟩, fun a' W hB hold he K hK => fx_move (.tmp 14) _ (.inl rfl) (hold 14 (by decide)) (hK _ (Below.refl _ _))⟩
    · exact .inl ⟨.inr ⟨20, false, _, rfl, ⟨⟨20, .guard⟩, by simp, rfl, rfl⟩, rfl, rfl, by decide, rfl⟩, fun a' W hB hold he K hK => fx_move (.tmp 61) _ (.inl rfl) (he ⟨21, .data⟩ (by simp) rfl) (hK _ (Below.refl _ _))⟩
    · exact .inr ⟨rfl, rfl, 22, true, _, rfl, ⟨⟨22, .guard⟩, by simp, rfl, rfl⟩, rfl, rfl, by decide, by intro h; cases h⟩
    · exact .inr ⟨rfl, rfl, 22, true, _, rfl, ⟨⟨22, .guard⟩, by simp, rfl, rfl⟩, rfl, rfl, by decide, by intro h; cases h⟩
    · exact .inr ⟨rfl, rfl, 22, true, _, rfl, ⟨⟨22, .guard⟩, by simp, rfl, rfl⟩, rfl, rfl, by decide, by intro h; cases h⟩
    · exact .inr ⟨rfl, rfl, 22, true, _, rfl, ⟨⟨22, .guard⟩, by simp, rfl, rfl⟩, rfl, rfl, by decide, by intro h; cases h⟩
    · exact .inl ⟨.inr ⟨20, false, _, rfl, ⟨⟨20, .guard⟩, by simp, rfl, rfl⟩, rfl, rfl, by decide, rfl⟩, fun a' W hB hold he K hK => fx_pick (.tmp 62) (.tmp 66) (.const (.bool false)) false _ rfl (he ⟨22, .data⟩ (by simp) rfl) rfl (hK _ (Below.refl _ _))⟩
    · exact .inl ⟨.inl rfl, fun a' W hB hold he K hK => fx_pick (.tmp 60) (.const (.bool true)) (.tmp 67) false _ rfl (he ⟨20, .data⟩ (by simp) rfl) (he ⟨27, .data⟩ (by simp) rfl) (hK _ (Below.refl _ _))⟩
    · exact .inl ⟨.inl rfl, fun a' W hB hold he K hK => fx_move (.tmp 68) _ (.inl rfl) (he ⟨28, .data⟩ (by simp) rfl) (hK _ (Below.refl _ _))⟩
    · exact .inl ⟨.inr ⟨29, false, _, rfl, ⟨⟨29, .guard⟩, by simp, rfl, rfl⟩, rfl, rfl, by decide, rfl⟩, fun a' W hB hold he K hK => fx_move (.tmp 14) _ (.inl rfl) (hold 14 (by decide)) (hK _ (Below.refl _ _))⟩
    · exact .inl ⟨.inr ⟨29, false, _, rfl, ⟨⟨29, .guard⟩, by simp, rfl, rfl⟩, rfl, rfl, by decide, rfl⟩, fun a' W hB hold he K hK => fx_not 4 (.tmp 70) _ rfl (he ⟨30, .data⟩ (by simp) rfl) (hK _ (Below.refl _ _))⟩
    · exact .inl ⟨.inr ⟨29, false, _, rfl, ⟨⟨29, .guard⟩, by simp, rfl, rfl⟩, rfl, rfl, by decide, rfl⟩, fun a' W hB hold he K hK => fx_move (.tmp 71) _ (.inl rfl) (he ⟨31, .data⟩ (by simp) rfl) (hK _ (Below.refl _ _))⟩
    · exact .inl ⟨.inr ⟨32, true, _, rfl, ⟨⟨32, .guard⟩, by simp, rfl, rfl⟩, rfl, rfl, by decide, rfl⟩, fun a' W hB hold he K hK => fx_move (.tmp 9) _ (.inl rfl) (hold 9 (by decide)) (hK _ (Below.refl _ _))⟩
    · exact .inl ⟨.inr ⟨32, true, _, rfl, ⟨⟨32, .guard⟩, by simp, rfl, rfl⟩, rfl, rfl, by decide, rfl⟩, fun a' W hB hold he K hK => fx_bin .neq 23 23 (.tmp 73) (.const (.int .u64 0)) _ _ _ rfl (he ⟨33, .data⟩ (by simp) rfl) rfl (by kernel_rfl) (by kernel_rfl) (hK _ (Below.refl _ _))⟩
    · exact .inl ⟨.inr ⟨29, false, _, rfl, ⟨⟨29, .guard⟩, by simp, rfl, rfl⟩, rfl, rfl, by decide, rfl⟩, fun a' W hB hold he K hK => fx_pick (.tmp 72) (.tmp 74) (.const (.bool false)) true _ rfl (he ⟨32, .data⟩ (by simp) rfl) (he ⟨34, .data⟩ (by simp) rfl) (hK _ (Below.refl _ _))⟩
    · exact .inl ⟨.inl rfl, fun a' W hB hold he K hK => fx_pick (.tmp 69) (.const (.bool true)) (.tmp 75) false _ rfl (he ⟨29, .data⟩ (by simp) rfl) (he ⟨35, .data⟩ (by simp) rfl) (hK _ (Below.refl _ _))⟩
    · exact .inl ⟨.inl rfl, fun a' W hB hold he K hK => fx_move (.tmp 76) _ (.inl rfl) (he ⟨36, .data⟩ (by simp) rfl) (hK _ (Below.refl _ _))⟩
    · exact .inl ⟨.inr ⟨37, false, _, rfl, ⟨⟨37, .guard⟩, by simp, rfl, rfl⟩, rfl, rfl, by decide, rfl⟩, fun a' W hB hold he K hK => fx_move (.tmp 5) _ (.inl rfl) (hold 5 (by decide)) (hK _ (Below.refl _ _))⟩
    · exact .inl ⟨.inr ⟨37, false, _, rfl, ⟨⟨37, .guard⟩, by simp, rfl, rfl⟩, rfl, rfl, by decide, rfl⟩, fun a' W hB hold he K hK => (by have h0 : a'.eval (.tmp 78) = _ := (he ⟨38, .data⟩ (by simp) rfl); exact wp_step_call 36 #[_] (by simp only [execOp, h0]; simp [go_sem]; simp_all [Act.eval]) ((HT.out W).mono (by rintro e1 w' ⟨rfl, hb⟩; exact ⟨_, rfl, hK _ hb⟩)))⟩
    · exact .inl ⟨.inr ⟨37, false, _, rfl, ⟨⟨37, .guard⟩, by simp, rfl, rfl⟩, rfl, rfl, by decide, rfl⟩, fun a' W hB hold he K hK => wp_step_load 25 (.tmp 7) _ rfl _ (hold 7 (by decide)) (load_v22 W _ _ _ _ _ _ _ (X9.out.below hB X9.out.lt)) (hK _ (Below.refl _ _))⟩
    · exact .inl ⟨.inr ⟨37, false, _, rfl, ⟨⟨37, .guard⟩, by simp, rfl, rfl⟩, rfl, rfl, by decide, rfl⟩, fun a' W hB hold he K hK => (by have h0 : a'.eval (.tmp 80) = _ := (he ⟨40, .data⟩ (by simp) rfl); exact wp_step_call 33 #[_] (by simp only [execOp, h0]; simp [go_sem]; simp_all [Act.eval]) ((HR.out W).mono (by rintro e1 w' ⟨rfl, hb⟩; exact ⟨_, rfl, hK _ hb⟩)))⟩
    · exact .inl ⟨.inr ⟨37, false, _, rfl, ⟨⟨37, .guard⟩, by simp, rfl, rfl⟩, rfl, rfl, by decide, rfl⟩, fun a' W hB hold he K hK => fx_bin .neq 4 4 (.tmp 79) (.tmp 81) _ _ _ rfl (he ⟨39, .data⟩ (by simp) rfl) (he ⟨41, .data⟩ (by simp) rfl) (by kernel_rfl) (by kernel_rfl) (hK _ (Below.refl _ _))⟩
    · exact .inl ⟨.inl rfl, fun a' W hB hold he K hK => fx_pick (.tmp 77) (.const (.bool true)) (.tmp 82) false _ rfl (he ⟨37, .data⟩ (by simp) rfl) (he ⟨42, .data⟩ (by simp) rfl) (hK _ (Below.refl _ _))⟩
    · exact .inl ⟨.inl rfl, fun a' W hB hold he K hK => fx_move (.tmp 83) _ (.inl rfl) (he ⟨43, .data⟩ (by simp) rfl) (hK _ (Below.refl _ _))⟩
    · exact .inl ⟨.inr ⟨44, false, _, rfl, ⟨⟨44, .guard⟩, by simp, rfl, rfl⟩, rfl, rfl, by decide, rfl⟩, fun a' W hB hold he K hK => fx_move (.tmp 12) _ (.inl rfl) (hold 12 (by decide)) (hK _ (Below.refl _ _))⟩
    · exact .inl ⟨.inr ⟨44, false, _, rfl, ⟨⟨44, .guard⟩, by simp, rfl, rfl⟩, rfl, rfl, by decide, rfl⟩, fun a' W hB hold he K hK => wp_step_load 25 (.tmp 7) _ rfl _ (hold 7 (by decide)) (load_v22 W _ _ _ _ _ _ _ (X9.out.below hB X9.out.lt)) (hK _ (Below.refl _ _))⟩
    · exact .inl ⟨.inr ⟨44, false, _, rfl, ⟨⟨44, .guard⟩, by simp, rfl, rfl⟩, rfl, rfl, by decide, rfl⟩, fun a' W hB hold he K hK => (by have h0 : a'.eval (.tmp 86) = _ := (he ⟨46, .data⟩ (by simp) rfl); exact wp_step_call 33 #[_] (by simp only [execOp, h0]; simp [go_sem]; simp_all [Act.eval]) ((HR.out W).mono (by rintro e1 w' ⟨rfl, hb⟩; exact ⟨_, rfl, hK _ hb⟩)))⟩
    · exact .inl ⟨.inr ⟨44, false, _, rfl, ⟨⟨44, .guard⟩, by simp, rfl, rfl⟩, rfl, rfl, by decide, rfl⟩, fun a' W hB hold he K hK => fx_bin .neq 4 4 (.tmp 85) (.tmp 87) _ _ _ rfl (he ⟨45, .data⟩ (by simp) rfl) (he ⟨47, .data⟩ (by simp) rfl) (by kernel_rfl) (by kernel_rfl) (hK _ (Below.refl _ _))⟩
    · exact .inl ⟨.inl rfl, fun a' W hB hold he K hK => fx_pick (.tmp 84) (.const (.bool true)) (.tmp 88) false _ rfl (he ⟨44, .data⟩ (by simp) rfl) (he ⟨48, .data⟩ (by simp) rfl) (hK _ (Below.refl _ _))⟩
    · exact .inl ⟨.inl rfl, fun a' W hB hold he K hK => fx_move (.tmp 89) _ (.inl rfl) (he ⟨49, .data⟩ (by simp) rfl) (hK _ (Below.refl _ _))⟩
    · exact .inl ⟨.inr ⟨50, false, _, rfl, ⟨⟨50, .guard⟩, by simp, rfl, rfl⟩, rfl, rfl, by decide, rfl⟩, fun a' W hB hold he K hK => fx_move (.tmp 11) _ (.inl rfl) (hold 11 (by decide)) (hK _ (Below.refl _ _))⟩
    · exact .inl ⟨.inr ⟨50, false, _, rfl, ⟨⟨50, .guard⟩, by simp, rfl, rfl⟩, rfl, rfl, by decide, rfl⟩, fun a' W hB hold he K hK => fx_move (.tmp 13) _ (.inl rfl) (hold 13 (by decide)) (hK _ (Below.refl _ _))⟩
    · exact .inl ⟨.inr ⟨50, false, _, rfl, ⟨⟨50, .guard⟩, by simp, rfl, rfl⟩, rfl, rfl, by decide, rfl⟩, fun a' W hB hold he K hK => fx_bin .neq 3 3 (.tmp 91) (.tmp 92) _ _ _ rfl (he ⟨51, .data⟩ (by simp) rfl) (he ⟨52, .data⟩ (by simp) rfl) (by kernel_rfl) (by go_simp) (hK _ (Below.refl _ _))⟩
  intro W10 hb
  have HV := hide (HV.out.below hb HV.out.lt)
  have B := hide ((below_on B hb))
  clear hb X9 Z9
  have cv0 : W10.cell? ⟨w.heap.size, 0, none⟩ = some (.int .u8 s) := HV.out.cell 0
  have cv1 : W10.cell? ⟨w.heap.size, 1, none⟩ = some (.int .u64 n) := HV.out.cell 1
  have cv2 : W10.cell? ⟨w.heap.size, 2, none⟩ = some (.int .i64 x) := HV.out.cell 2
  have cv3 : W10.cell? ⟨w.heap.size, 3, none⟩ = some (.int .i64 y) := HV.out.cell 3
  have cv4 : W10.cell? ⟨w.heap.size, 4, none⟩ = some (.int .i64 o) := HV.out.cell 4
  have cv5 : W10.cell? ⟨w.heap.size, 5, none⟩ = some (.int .u64 g) := HV.out.cell 5
  simp only [putAll, List.length_cons, List.length_nil, Nat.reduceAdd, List.drop_succ_cons, List.drop_zero]
  go_wp2_with fail
  refine (HP.out _).mono ?_
  rintro e1 w11 ⟨rfl, hb⟩
  have B11 := hide (below_on B.out hb)
  clear hb cv0 cv1 cv2 cv3 cv4 cv5
  go_wp2_with fail
  refine (HL.out _).mono ?_
  rintro e1 w12 ⟨rfl, hb⟩
  have B12 := hide (below_on B11.out hb)
  clear hb
  go_wp2_with fail
  go_returns
  exact ⟨rfl, B12.out⟩

theorem vtells_fn (w : World) (s n x y o g s2 n2 x2 y2 o2 g2 : Int) (i : Int) (B : AV) (hA : V22.av ⟨s, n, x, y, o, g⟩ = .fn i) (hB : V22.av ⟨s2, n2, x2, y2, o2, g2⟩ = B) :
    Calls Try.prog 9 #[.agg #[.int .u8 s, .int .u64 n, .int .i64 x, .int .i64 y, .int .i64 o, .int .u64 g], .agg #[.int .u8 s2, .int .u64 n2, .int .i64 x2, .int .i64 y2, .int .i64 o2, .int .u64 g2]] w fun e w' => e = .returned (.bool true) ∧ Below w.heap.size w w' := by
  have H1 := hide (fun w => val_any w ⟨s, n, x, y, o, g⟩)
  have H2 := hide (fun w => val_any w ⟨s2, n2, x2, y2, o2, g2⟩)
  have H3 := hide (fun w => val_clean w ⟨s, n, x, y, o, g⟩)
  have H4 := hide (fun w => val_clean w ⟨s2, n2, x2, y2, o2, g2⟩)
  have HP := hide (fun w => val_panics w ⟨s, n, x, y, o, g⟩ (fun k h => by rw [hA] at h; cases h))
  have HL := hide (fun w => val_alive w)
  have HN := hide (fun w => val_number w (.fn i))
  have HO := hide (fun w => val_off w (.fn i))
  have HI := hide (fun w => val_isv w (.fn i))
  have HS := hide (fun w => val_same w (.fn i) B)
  have HT := hide (fun w => val_pointer w (.fn i))
  have HR := hide (fun w => ref_pointer w 7 0 i 0 0 0 (by decide))
  rw [hA] at H1 H3
  rw [hB] at H2 H4
  have hr := same_plain (.fn i) B
  clear hA hB
  obtain ⟨q, hq⟩ : ∃ q, q = B.plain := ⟨_, rfl⟩
  rw [← hq] at H4 hr
  obtain ⟨qa, qb, qc, qd, qe, qf⟩ := q
  have HE := hide (fun w => eq_v22 w 7 0 i 0 0 0 qa qb qc qd qe qf)
  rw [show (AV.plain (.fn i)) = (⟨7, 0, i, 0, 0, 0⟩ : V22) from rfl] at hr
  rw [← hr] at HE
  generalize AV.same (.fn i) B = r at HS HE
  generalize AV.enc B = V2 at H2 HS
  have HR0 : ptrSort 7 = false := by decide
  rw [HR0] at HR
  clear hr hq HR0
  simp only [AV.enc, AV.plain, AV.isNum, AV.is, AV.at, Option.isSome, Option.getD, V22.agg, V22.none] at H1 H2 H3 H4 HP HN HO HI HS HT
  go_enter Try.func9, Try.ntmps9
  go_wp2_with fail
  obtain ⟨W0, hW0⟩ : ∃ W0, W0 = (w.alloc (.cells #[.int .u8 s, .int .u64 n, .int .i64 x, .int .i64 y, .int .i64 o, .int .u64 g] 25)).alloc (.cells #[.int .u8 s2, .int .u64 n2, .int .i64 x2, .int .i64 y2, .int .i64 o2, .int .u64 g2] 25) := ⟨_, rfl⟩
  have B0 : Hid (Below w.heap.size w W0) := by rw [hW0]; exact hide (by go_grown)
  have HV : Hid (Has W0 w.heap.size 25 #[.int .u8 s, .int .u64 n, .int .i64 x, .int .i64 y, .int .i64 o, .int .u64 g]) := by rw [hW0]; exact hide ((Has.new w _ _).alloc _)
  have HU : Hid (Has W0 (w.heap.size + 1) 25 #[.int .u8 s2, .int .u64 n2, .int .i64 x2, .int .i64 y2, .int .i64 o2, .int .u64 g2]) := by rw [hW0]; exact hide (Has.last _ _ _ (by simp))
  rw [← hW0]
  clear hW0
  have c0 : W0.cell? ⟨w.heap.size, 0, none⟩ = some (.int .u8 s) := HV.out.cell 0
  have c1 : W0.cell? ⟨w.heap.size, 1, none⟩ = some (.int .u64 n) := HV.out.cell 1
  have c2 : W0.cell? ⟨w.heap.size, 2, none⟩ = some (.int .i64 x) := HV.out.cell 2
  have c3 : W0.cell? ⟨w.heap.size, 3, none⟩ = some (.int .i64 y) := HV.out.cell 3
  have c4 : W0.cell? ⟨w.heap.size, 4, none⟩ = some (.int .i64 o) := HV.out.cell 4
  have c5 : W0.cell? ⟨w.heap.size, 5, none⟩ = some (.int .u64 g) := HV.out.cell 5
  have d0 : W0.cell? ⟨w.heap.size + 1, 0, none⟩ = some (.int .u8 s2) := HU.out.cell 0
  have d1 : W0.cell? ⟨w.heap.size + 1, 1, none⟩ = some (.int .u64 n2) := HU.out.cell 1
  have d2 : W0.cell? ⟨w.heap.size + 1, 2, none⟩ = some (.int .i64 x2) := HU.out.cell 2
  have d3 : W0.cell? ⟨w.heap.size + 1, 3, none⟩ = some (.int .i64 y2) := HU.out.cell 3
  have d4 : W0.cell? ⟨w.heap.size + 1, 4, none⟩ = some (.int .i64 o2) := HU.out.cell 4
  have d5 : W0.cell? ⟨w.heap.size + 1, 5, none⟩ = some (.int .u64 g2) := HU.out.cell 5
  go_region_held3 (fun w' => (w'.cell? ⟨w.heap.size, 0, none⟩ = some (.int .u8 s) ∧ w'.cell? ⟨w.heap.size, 1, none⟩ = some (.int .u64 n) ∧ w'.cell? ⟨w.heap.size, 2, none⟩ = some (.int .i64 x) ∧ w'.cell? ⟨w.heap.size, 3, none⟩ = some (.int .i64 y) ∧ w'.cell? ⟨w.heap.size, 4, none⟩ = some (.int .i64 o) ∧ w'.cell? ⟨w.heap.size, 5, none⟩ = some (.int .u64 g)) ∧
      (w'.cell? ⟨w.heap.size + 1, 0, none⟩ = some (.int .u8 s2) ∧ w'.cell? ⟨w.heap.size + 1, 1, none⟩ = some (.int .u64 n2) ∧ w'.cell? ⟨w.heap.size + 1, 2, none⟩ = some (.int .i64 x2) ∧ w'.cell? ⟨w.heap.size + 1, 3, none⟩ = some (.int .i64 y2) ∧ w'.cell? ⟨w.heap.size + 1, 4, none⟩ = some (.int .i64 o2) ∧ w'.cell? ⟨w.heap.size + 1, 5, none⟩ = some (.int .u64 g2)))
    (first
      | go_keep
      | (go_split_ands; refine ⟨⟨?_, ?_, ?_, ?_, ?_, ?_⟩, ?_, ?_, ?_, ?_, ?_, ?_⟩ <;> exact t6.cell (by assumption) (fun h => h))
      | (go_split_ands; refine ⟨⟨?_, ?_, ?_, ?_, ?_, ?_⟩, ?_, ?_, ?_, ?_, ?_, ?_⟩ <;> exact t5.cell (by assumption) (fun h => h))
      )
    (first
      | (go_at_call 13; (with_reducible refine (H1.out _).mono ?_); rintro e w4 ⟨rfl, hb⟩; have t5 := Turned.of_below (S := fun _ => False) hb; clear hb)
      | (go_at_call 13; (with_reducible refine (H2.out _).mono ?_); rintro e w5 ⟨rfl, hb⟩; have t6 := Turned.of_below (S := fun _ => False) hb; clear hb))
  have B5 := hide (B0.out.trans ((Below.drew (Below.refl w.heap.size W0)).trans ((t5.trans t6).below (B := w.heap.size) B0.out.size (fun k h => h.elim))))
  have T := t5.trans t6
  have HV5 := hide (HV.out.drew.turned T (fun h => h))
  have HU5 := hide (HU.out.drew.turned T (fun h => h))
  clear T
  clear t5 t6 HV HU B0 c0 c1 c2 c3 c4 c5 d0 d1 d2 d3 d4 d5
  rename_i hheld
  clear hheld
  go_wp2_with fail
  refine wp_region_grows [19, 20, 21, 22, 7, 8] (CleanPhi w5.heap.size (.agg #[.int .u8 s, .int .u64 n, .int .i64 x, .int .i64 y, .int .i64 o, .int .u64 g]) (.agg #[.int .u8 7, .int .u64 0, .int .i64 i, .int .i64 0, .int .i64 0, .int .u64 0]) (.agg #[.int .u8 s2, .int .u64 n2, .int .i64 x2, .int .i64 y2, .int .i64 o2, .int .u64 g2]) (.agg #[.int .u8 qa, .int .u64 qb, .int .i64 qc, .int .i64 qd, .int .i64 qe, .int .u64 qf])) newBlk (by kernel_rfl)
    (by simp) (by kernel_rfl) (by kernel_rfl) (by kernel_rfl) (by simp) (by decide) (cleanPhi_lasts _ _ _ _ _) (newBlk_lt _ _ _ _ _) ?_ ?_
  · refine ⟨⟨rfl, fun a' W hB hold he K hK => ?_⟩, ⟨rfl, fun a' W hB hold he K hK => ?_⟩, ⟨rfl, fun a' W hB hold he K hK => ?_⟩, ⟨rfl, fun a' W hB hold he K hK => ?_⟩, ⟨rfl, fun a' W hB hold he K hK => ?_⟩, ⟨rfl, fun a' W hB hold he K hK => ?_⟩, trivial⟩
    · exact wp_step_load 25 (.tmp 2) _ rfl _ (hold 2 (by decide)) (load_v22 W _ _ _ _ _ _ _ (HV5.out.below hB HV5.out.lt)) (hK _ _ (Below.refl _ _) rfl (fun b h => by simp [newBlk] at h))
    · have h19 : a'.eval (.tmp 19) = _ := he ⟨0, .data⟩ (by simp) rfl
      refine wp_step_call 14 #[_] ?_ ((H3.out W).mono ?_)
      · simp [execOp, go_sem, h19]
        simpa [Act.eval] using h19
      · rintro e w' ⟨rfl, hb⟩
        exact ⟨_, rfl, hK _ _ hb rfl (fun b h => by simp [newBlk] at h)⟩
    · exact wp_step_load 25 (.tmp 3) _ rfl _ (hold 3 (by decide)) (load_v22 W _ _ _ _ _ _ _ (HU5.out.below hB HU5.out.lt)) (hK _ _ (Below.refl _ _) rfl (fun b h => by simp [newBlk] at h))
    · have h21 : a'.eval (.tmp 21) = _ := he ⟨2, .data⟩ (by simp) rfl
      refine wp_step_call 14 #[_] ?_ ((H4.out W).mono ?_)
      · simp [execOp, go_sem, h21]
        simpa [Act.eval] using h21
      · rintro e w' ⟨rfl, hb⟩
        exact ⟨_, rfl, hK _ _ hb rfl (fun b h => by simp [newBlk] at h)⟩
    · exact wp_step_run _ (by kernel_rfl) (hK _ _ ((Below.refl _ _).alloc (Nat.le_refl _) _) ⟨_, hB.size, rfl, Has.new _ _ _⟩ (fun b h => by simp [newBlk] at h; omega))
    · exact wp_step_run _ (by kernel_rfl) (hK _ _ ((Below.refl _ _).alloc (Nat.le_refl _) _) ⟨_, hB.size, rfl, Has.new _ _ _⟩ (fun b h => by simp [newBlk] at h; omega))
  intro vs W hB hlen hvs hap
  obtain ⟨v0, v1, v2, v3, v4, v5, rfl⟩ : ∃ v0 v1 v2 v3 v4 v5, vs = [v0, v1, v2, v3, v4, v5] := by
    match vs, hlen with
    | [v0, v1, v2, v3, v4, v5], _ => exact ⟨_, _, _, _, _, _, rfl⟩
  obtain rfl : v0 = _ := hvs 0 v0 rfl
  obtain rfl : v1 = _ := hvs 1 v1 rfl
  obtain rfl : v2 = _ := hvs 2 v2 rfl
  obtain rfl : v3 = _ := hvs 3 v3 rfl
  obtain ⟨bx, hbx, rfl, hX⟩ : NewV w5.heap.size v4 W := hvs 4 v4 rfl
  obtain ⟨bz, hbz, rfl, hY⟩ : NewV w5.heap.size v5 W := hvs 5 v5 rfl
  have hne : bx ≠ bz := hap 4 5 _ _ (by decide) rfl rfl bx bz rfl rfl
  clear hvs hap hlen
  have B6 := hide (B5.out.trans (hB.mono B5.out.size))
  have HV6 := hide (HV5.out.below hB HV5.out.lt)
  have hbx1 : w.heap.size ≠ bx := by have := HV5.out.lt; omega
  have hbz1 : w.heap.size ≠ bz := by have := HV5.out.lt; omega
  have hbx2 : w.heap.size ≤ bx := by have := B5.out.size; omega
  have hbz2 : w.heap.size ≤ bz := by have := B5.out.size; omega
  clear hB HV5 HU5 B5 hbx hbz
  have HX := hide hX
  have HY := hide hY
  have hne' : bz ≠ bx := fun h => hne h.symm
  clear hX hY
  simp only [putAll, List.length_cons, List.length_nil, Nat.reduceAdd, List.drop_succ_cons, List.drop_zero]
  have cx0 : W.cell? ⟨bx, 0, none⟩ = some (.int .u8 0) := HX.out.cell 0
  have cx1 : W.cell? ⟨bx, 1, none⟩ = some (.int .u64 0) := HX.out.cell 1
  have cx2 : W.cell? ⟨bx, 2, none⟩ = some (.int .i64 0) := HX.out.cell 2
  have cx3 : W.cell? ⟨bx, 3, none⟩ = some (.int .i64 0) := HX.out.cell 3
  have cx4 : W.cell? ⟨bx, 4, none⟩ = some (.int .i64 0) := HX.out.cell 4
  have cx5 : W.cell? ⟨bx, 5, none⟩ = some (.int .u64 0) := HX.out.cell 5
  have cz0 : W.cell? ⟨bz, 0, none⟩ = some (.int .u8 0) := HY.out.cell 0
  have cz1 : W.cell? ⟨bz, 1, none⟩ = some (.int .u64 0) := HY.out.cell 1
  have cz2 : W.cell? ⟨bz, 2, none⟩ = some (.int .i64 0) := HY.out.cell 2
  have cz3 : W.cell? ⟨bz, 3, none⟩ = some (.int .i64 0) := HY.out.cell 3
  have cz4 : W.cell? ⟨bz, 4, none⟩ = some (.int .i64 0) := HY.out.cell 4
  have cz5 : W.cell? ⟨bz, 5, none⟩ = some (.int .u64 0) := HY.out.cell 5
  have fx0 := HX.out.free 0
  have fz0 := HY.out.free 0
  have fx1 := HX.out.free 1
  have fz1 := HY.out.free 1
  have fx2 := HX.out.free 2
  have fz2 := HY.out.free 2
  have fx3 := HX.out.free 3
  have fz3 := HY.out.free 3
  have fx4 := HX.out.free 4
  have fz4 := HY.out.free 4
  have fx5 := HX.out.free 5
  have fz5 := HY.out.free 5
  go_wp2_with fail
  obtain ⟨W7, hW7⟩ : ∃ W7, W7 = ((((((((((((W.setCell ⟨bx, 0, none⟩ (.int .u8 7)).setCell ⟨bx, 1, none⟩ (.int .u64 0)).setCell ⟨bx, 2, none⟩ (.int .i64 i)).setCell ⟨bx, 3, none⟩ (.int .i64 0)).setCell ⟨bx, 4, none⟩ (.int .i64 0)).setCell ⟨bx, 5, none⟩ (.int .u64 0)).setCell ⟨bz, 0, none⟩ (.int .u8 qa)).setCell ⟨bz, 1, none⟩ (.int .u64 qb)).setCell ⟨bz, 2, none⟩ (.int .i64 qc)).setCell ⟨bz, 3, none⟩ (.int .i64 qd)).setCell ⟨bz, 4, none⟩ (.int .i64 qe)).setCell ⟨bz, 5, none⟩ (.int .u64 qf)) := ⟨_, rfl⟩
  have X7 : Hid (Has W7 bx 25 #[.int .u8 7, .int .u64 0, .int .i64 i, .int .i64 0, .int .i64 0, .int .u64 0]) := by rw [hW7]; exact hide ((((((((((((HX.out.set 0 (.int .u8 7)).set 1 (.int .u64 0)).set 2 (.int .i64 i)).set 3 (.int .i64 0)).set 4 (.int .i64 0)).set 5 (.int .u64 0)).far (p := ⟨bz, 0, none⟩) hne (.int .u8 qa)).far (p := ⟨bz, 1, none⟩) hne (.int .u64 qb)).far (p := ⟨bz, 2, none⟩) hne (.int .i64 qc)).far (p := ⟨bz, 3, none⟩) hne (.int .i64 qd)).far (p := ⟨bz, 4, none⟩) hne (.int .i64 qe)).far (p := ⟨bz, 5, none⟩) hne (.int .u64 qf))
  have Z7 : Hid (Has W7 bz 25 #[.int .u8 qa, .int .u64 qb, .int .i64 qc, .int .i64 qd, .int .i64 qe, .int .u64 qf]) := by rw [hW7]; exact hide ((((((((((((HY.out.far (p := ⟨bx, 0, none⟩) hne' (.int .u8 7)).far (p := ⟨bx, 1, none⟩) hne' (.int .u64 0)).far (p := ⟨bx, 2, none⟩) hne' (.int .i64 i)).far (p := ⟨bx, 3, none⟩) hne' (.int .i64 0)).far (p := ⟨bx, 4, none⟩) hne' (.int .i64 0)).far (p := ⟨bx, 5, none⟩) hne' (.int .u64 0)).set 0 (.int .u8 qa)).set 1 (.int .u64 qb)).set 2 (.int .i64 qc)).set 3 (.int .i64 qd)).set 4 (.int .i64 qe)).set 5 (.int .u64 qf))
  have V7 : Hid (Has W7 w.heap.size 25 #[.int .u8 s, .int .u64 n, .int .i64 x, .int .i64 y, .int .i64 o, .int .u64 g]) := by rw [hW7]; exact hide ((((((((((((HV6.out.far (p := ⟨bx, 0, none⟩) hbx1 (.int .u8 7)).far (p := ⟨bx, 1, none⟩) hbx1 (.int .u64 0)).far (p := ⟨bx, 2, none⟩) hbx1 (.int .i64 i)).far (p := ⟨bx, 3, none⟩) hbx1 (.int .i64 0)).far (p := ⟨bx, 4, none⟩) hbx1 (.int .i64 0)).far (p := ⟨bx, 5, none⟩) hbx1 (.int .u64 0)).far (p := ⟨bz, 0, none⟩) hbz1 (.int .u8 qa)).far (p := ⟨bz, 1, none⟩) hbz1 (.int .u64 qb)).far (p := ⟨bz, 2, none⟩) hbz1 (.int .i64 qc)).far (p := ⟨bz, 3, none⟩) hbz1 (.int .i64 qd)).far (p := ⟨bz, 4, none⟩) hbz1 (.int .i64 qe)).far (p := ⟨bz, 5, none⟩) hbz1 (.int .u64 qf))
  have B7 : Hid (Below w.heap.size w W7) := by rw [hW7]; exact hide ((((((((((((B6.out.setCell (p := ⟨bx, 0, none⟩) hbx2 (.int .u8 7)).setCell (p := ⟨bx, 1, none⟩) hbx2 (.int .u64 0)).setCell (p := ⟨bx, 2, none⟩) hbx2 (.int .i64 i)).setCell (p := ⟨bx, 3, none⟩) hbx2 (.int .i64 0)).setCell (p := ⟨bx, 4, none⟩) hbx2 (.int .i64 0)).setCell (p := ⟨bx, 5, none⟩) hbx2 (.int .u64 0)).setCell (p := ⟨bz, 0, none⟩) hbz2 (.int .u8 qa)).setCell (p := ⟨bz, 1, none⟩) hbz2 (.int .u64 qb)).setCell (p := ⟨bz, 2, none⟩) hbz2 (.int .i64 qc)).setCell (p := ⟨bz, 3, none⟩) hbz2 (.int .i64 qd)).setCell (p := ⟨bz, 4, none⟩) hbz2 (.int .i64 qe)).setCell (p := ⟨bz, 5, none⟩) hbz2 (.int .u64 qf))
  rw [← hW7]
  clear hW7 HX HY HV6 B6 cx0 cx1 cx2 cx3 cx4 cx5 cz0 cz1 cz2 cz3 cz4 cz5 fx0 fx1 fx2 fx3 fx4 fx5 fz0 fz1 fz2 fz3 fz4 fz5 hne hne' hbx1 hbz1 hbx2 hbz2
  refine (HN.out _).mono ?_
  rintro e1 w1 ⟨rfl, rfl⟩
  go_wp2_with fail
  refine (HO.out _).mono ?_
  rintro e1 w8 ⟨rfl, hb⟩
  have X8 := hide (X7.out.below hb X7.out.lt)
  have Z8 := hide (Z7.out.below hb Z7.out.lt)
  have V8 := hide (V7.out.below hb V7.out.lt)
  have B8 := hide (below_on B7.out hb)
  clear hb X7 Z7 V7 B7
  have cx0 : w8.cell? ⟨bx, 0, none⟩ = some (.int .u8 7) := X8.out.cell 0
  have cx1 : w8.cell? ⟨bx, 1, none⟩ = some (.int .u64 0) := X8.out.cell 1
  have cx2 : w8.cell? ⟨bx, 2, none⟩ = some (.int .i64 i) := X8.out.cell 2
  have cx3 : w8.cell? ⟨bx, 3, none⟩ = some (.int .i64 0) := X8.out.cell 3
  have cx4 : w8.cell? ⟨bx, 4, none⟩ = some (.int .i64 0) := X8.out.cell 4
  have cx5 : w8.cell? ⟨bx, 5, none⟩ = some (.int .u64 0) := X8.out.cell 5
  go_wp2_with fail
  refine (HR.out _).mono ?_
  rintro e1 w9 ⟨rfl, hb⟩
  have X9 := hide (X8.out.below hb X8.out.lt)
  have Z9 := hide (Z8.out.below hb Z8.out.lt)
  have HV := hide (V8.out.below hb V8.out.lt)
  have B := below_on B8.out hb
  clear hb X8 Z8 V8 B8 cx0 cx1 cx2 cx3 cx4 cx5
  have cx0 : w9.cell? ⟨bx, 0, none⟩ = some (.int .u8 7) := X9.out.cell 0
  have cx1 : w9.cell? ⟨bx, 1, none⟩ = some (.int .u64 0) := X9.out.cell 1
  have cx2 : w9.cell? ⟨bx, 2, none⟩ = some (.int .i64 i) := X9.out.cell 2
  have cx3 : w9.cell? ⟨bx, 3, none⟩ = some (.int .i64 0) := X9.out.cell 3
  have cx4 : w9.cell? ⟨bx, 4, none⟩ = some (.int .i64 0) := X9.out.cell 4
  have cx5 : w9.cell? ⟨bx, 5, none⟩ = some (.int .u64 0) := X9.out.cell 5
  go_wp2_with fail
  clear cx0 cx1 cx2 cx3 cx4 cx5
  refine wp_region_fixed [40, 41, 42, 43, 44, 45, 46, 47, 48, 49, 50, 51, 52, 53, 54, 55, 56, 57, 58, 59, 60, 61, 62, 63, 64, 65, 66, 67, 68, 69, 70, 71, 72, 73, 74, 75, 76, 77, 78, 79, 80, 81, 82, 83, 84, 85, 86, 87, 88, 89, 90, 91, 92, 93]
    [(.iface 57 (.agg #[.int .i64 i])), .bool true, .pointer (some ⟨bx, 0, none⟩), .int .u8 7, .bool true, .bool false, .bool false, (.iface 57 (.agg #[.int .i64 i])), V2, .bool r, .agg #[.int .u8 7, .int .u64 0, .int .i64 i, .int .i64 0, .int .i64 0, .int .u64 0], .agg #[.int .u8 qa, .int .u64 qb, .int .i64 qc, .int .i64 qd, .int .i64 qe, .int .u64 qf], .bool r, .bool false, .bool false, .bool false, .bool false, .bool false, .bool false, .bool false, .bool false, .bool false, .bool false, undef, undef, undef, undef, .bool false, .bool false, .bool false, .bool false, .bool true, .bool true, .int .u64 0, .bool false, .bool false, .bool false, .bool false, (.iface 57 (.agg #[.int .i64 i])), .bool false, .agg #[.int .u8 7, .int .u64 0, .int .i64 i, .int .i64 0, .int .i64 0, .int .u64 0], .bool false, .bool false, .bool false, .bool false, .bool false, .agg #[.int .u8 7, .int .u64 0, .int .i64 i, .int .i64 0, .int .i64 0, .int .u64 0], .bool false, .bool false, .bool false, .bool false, .int .i64 0, .int .i64 0, .bool false] (by kernel_rfl) (by simp) rfl (by kernel_rfl) (by kernel_rfl) (by kernel_rfl) (by simp) (by decide) ?_ ?_
  · refine ⟨?_, ?_, ?_, ?_, ?_, ?_, ?_, ?_, ?_, ?_, ?_, ?_, ?_, ?_, ?_, ?_, ?_, ?_, ?_, ?_, ?_, ?_, ?_, ?_, ?_, ?_, ?_, ?_, ?_, ?_, ?_, ?_, ?_, ?_, ?_, ?_, ?_, ?_, ?_, ?_, ?_, ?_, ?_, ?_, ?_, ?_, ?_, ?_, ?_, ?_, ?_, ?_, ?_, ?_, trivial⟩
    · exact .inl ⟨.inl rfl, fun a' W hB hold he K hK => fx_move (.tmp 5) _ (.inl rfl) (hold 5 (by decide)) (hK _ (Below.refl _ _))⟩
    · exact .inl ⟨.inl rfl, fun a' W hB hold he K hK => (by have h0 : a'.eval (.tmp 40) = _ := (he ⟨0, .data⟩ (by simp) rfl); exact wp_step_call 34 #[_] (by simp only [execOp, h0]; simp [go_sem]; simp_all [Act.eval]) ((HI.out W).mono (by rintro e1 w' ⟨rfl, hb⟩; exact ⟨_, rfl, hK _ hb⟩)))⟩
    · exact .inl ⟨.inl rfl, fun a' W hB hold he K hK => fx_field 25 (.tmp 7) 0 _ _ rfl (hold 7 (by decide)) (by kernel_rfl) (hK _ (Below.refl _ _))⟩
    · exact .inl ⟨.inl rfl, fun a' W hB hold he K hK => wp_step_load 5 (.tmp 42) _ rfl _ (he ⟨2, .data⟩ (by simp) rfl) (by have c0 : W.cell? ⟨bx, 0, none⟩ = some (.int .u8 7) := (X9.out.below hB X9.out.lt).cell 0; go_simp) (hK _ (Below.refl _ _))⟩
    · exact .inl ⟨.inl rfl, fun a' W hB hold he K hK => fx_bin .neq 5 5 (.tmp 43) (.const (.int .u8 0)) _ _ _ rfl (he ⟨3, .data⟩ (by simp) rfl) rfl (by kernel_rfl) (by kernel_rfl) (hK _ (Below.refl _ _))⟩
    · exact .inl ⟨.inl rfl, fun a' W hB hold he K hK => fx_bin .neq 4 4 (.tmp 41) (.tmp 44) _ _ _ rfl (he ⟨1, .data⟩ (by simp) rfl) (he ⟨4, .data⟩ (by simp) rfl) (by kernel_rfl) (by kernel_rfl) (hK _ (Below.refl _ _))⟩
    · exact .inl ⟨.inl rfl, fun a' W hB hold he K hK => fx_move (.tmp 45) _ (.inl rfl) (he ⟨5, .data⟩ (by simp) rfl) (hK _ (Below.refl _ _))⟩
    · exact .inl ⟨.inr ⟨6, false, _, rfl, ⟨⟨6, .guard⟩, by simp, rfl, rfl⟩, rfl, rfl, by decide, rfl⟩, fun a' W hB hold he K hK => fx_move (.tmp 5) _ (.inl rfl) (hold 5 (by decide)) (hK _ (Below.refl _ _))⟩
    · exact .inl ⟨.inr ⟨6, false, _, rfl, ⟨⟨6, .guard⟩, by simp, rfl, rfl⟩, rfl, rfl, by decide, rfl⟩, fun a' W hB hold he K hK => fx_move (.tmp 6) _ (.inl rfl) (hold 6 (by decide)) (hK _ (Below.refl _ _))⟩
    · exact .inl ⟨.inr ⟨6, false, _, rfl, ⟨⟨6, .guard⟩, by simp, rfl, rfl⟩, rfl, rfl, by decide, rfl⟩, fun a' W hB hold he K hK => (by have h0 : a'.eval (.tmp 47) = _ := (he ⟨7, .data⟩ (by simp) rfl); have h1 : a'.eval (.tmp 48) = _ := (he ⟨8, .data⟩ (by simp) rfl); exact wp_step_call 35 #[_, _] (by simp only [execOp, h0, h1]; simp [go_sem]; simp_all [Act.eval]) ((HS.out W).mono (by rintro e1 w' ⟨rfl, hb⟩; exact ⟨_, rfl, hK _ hb⟩)))⟩
    · exact .inl ⟨.inr ⟨6, false, _, rfl, ⟨⟨6, .guard⟩, by simp, rfl, rfl⟩, rfl, rfl, by decide, rfl⟩, fun a' W hB hold he K hK => wp_step_load 25 (.tmp 7) _ rfl _ (hold 7 (by decide)) (load_v22 W _ _ _ _ _ _ _ (X9.out.below hB X9.out.lt)) (hK _ (Below.refl _ _))⟩
    · exact .inl ⟨.inr ⟨6, false, _, rfl, ⟨⟨6, .guard⟩, by simp, rfl, rfl⟩, rfl, rfl, by decide, rfl⟩, fun a' W hB hold he K hK => wp_step_load 25 (.tmp 8) _ rfl _ (hold 8 (by decide)) (load_v22 W _ _ _ _ _ _ _ (Z9.out.below hB Z9.out.lt)) (hK _ (Below.refl _ _))⟩
    · exact .inl ⟨.inr ⟨6, false, _, rfl, ⟨⟨6, .guard⟩, by simp, rfl, rfl⟩, rfl, rfl, by decide, rfl⟩, fun a' W hB hold he K hK => fx_bin .eql 25 25 (.tmp 50) (.tmp 51) _ _ _ rfl (he ⟨10, .data⟩ (by simp) rfl) (he ⟨11, .data⟩ (by simp) rfl) (by go_simp) (HE.out W) (hK _ (Below.refl _ _))⟩
    · exact .inl ⟨.inr ⟨6, false, _, rfl, ⟨⟨6, .guard⟩, by simp, rfl, rfl⟩, rfl, rfl, by decide, rfl⟩, fun a' W hB hold he K hK => fx_bin .neq 4 4 (.tmp 49) (.tmp 52) _ _ _ rfl (he ⟨9, .data⟩ (by simp) rfl) (he ⟨12, .data⟩ (by simp) rfl) (by kernel_rfl) (by cases r <;> kernel_rfl) (hK _ (Below.refl _ _))⟩
    · exact .inl ⟨.inl rfl, fun a' W hB hold he K hK => fx_pick (.tmp 46) (.const (.bool true)) (.tmp 53) false _ rfl (he ⟨6, .data⟩ (by simp) rfl) (he ⟨13, .data⟩ (by simp) rfl) (hK _ (Below.refl _ _))⟩
    · exact .inl ⟨.inl rfl, fun a' W hB hold he K hK => fx_move (.tmp 54) _ (.inl rfl) (he ⟨14, .data⟩ (by simp) rfl) (hK _ (Below.refl _ _))⟩
    · exact .inl ⟨.inr ⟨15, false, _, rfl, ⟨⟨15, .guard⟩, by simp, rfl, rfl⟩, rfl, rfl, by decide, rfl⟩, fun a' W hB hold he K hK => fx_move (.tmp 10) _ (.inl rfl) (hold 10 (by decide)) (hK _ (Below.refl _ _))⟩
    · exact .inl ⟨.inr ⟨15, false, _, rfl, ⟨⟨15, .guard⟩, by simp, rfl, rfl⟩, rfl, rfl, by decide, rfl⟩, fun a' W hB hold he K hK => fx_move (.tmp 14) _ (.inl rfl) (hold 14 (by decide)) (hK _ (Below.refl _ _))⟩
    · exact .inl ⟨.inr ⟨15, false, _, rfl, ⟨⟨15, .guard⟩, by simp, rfl, rfl⟩, rfl, rfl, by decide, rfl⟩, fun a' W hB hold he K hK => fx_bin .neq 4 4 (.tmp 56) (.tmp 57) _ _ _ rfl (he ⟨16, .data⟩ (by simp) rfl) (he ⟨17, .data⟩ (by simp) rfl) (by kernel_rfl) (by kernel_rfl) (hK _ (Below.refl _ _))⟩
    · exact .inl ⟨.inl rfl, fun a' W hB hold he K hK => fx_pick (.tmp 55) (.const (.bool true)) (.tmp 58) false _ rfl (he ⟨15, .data⟩ (by simp) rfl) (he ⟨18, .data⟩ (by simp) rfl) (hK _ (Below.refl _ _))⟩
    · exact .inl ⟨.inl rfl, fun a' W hB hold he K hK => fx_move (.tmp 59) _ (.inl rfl) (he ⟨19, .data⟩ (by simp) rfl) (hK _ (Below.refl _ _))⟩
    · exact .inl ⟨.inr ⟨20, false, _, rfl, ⟨⟨20, .guard⟩, by simp, rfl, rfl⟩, rfl, rfl, by decide, rfl⟩, fun a' W hB hold he K hK => fx_move (.tmp 14) _ (.inl rfl) (hold 14 (by decide)) (hK _ (Below.refl _ _))⟩
    · exact .inl ⟨.inr ⟨20, false, _, rfl, ⟨⟨20, .guard⟩, by simp, rfl, rfl⟩, rfl, rfl, by decide, rfl⟩, fun a' W hB hold he K hK => fx_move (.tmp 61) _ (.inl rfl) (he ⟨21, .data⟩ (by simp) rfl) (hK _ (Below.refl _ _))⟩
    · exact .inr ⟨rfl, rfl, 22, true, _, rfl, ⟨⟨22, .guard⟩, by simp, rfl, rfl⟩, rfl, rfl, by decide, by intro h; cases h⟩
    · exact .inr ⟨rfl, rfl, 22, true, _, rfl, ⟨⟨22, .guard⟩, by simp, rfl, rfl⟩, rfl, rfl, by decide, by intro h; cases h⟩
    · exact .inr ⟨rfl, rfl, 22, true, _, rfl, ⟨⟨22, .guard⟩, by simp, rfl, rfl⟩, rfl, rfl, by decide, by intro h; cases h⟩
    · exact .inr ⟨rfl, rfl, 22, true, _, rfl, ⟨⟨22, .guard⟩, by simp, rfl, rfl⟩, rfl, rfl, by decide, by intro h; cases h⟩
    · exact .inl ⟨.inr ⟨20, false, _, rfl, ⟨⟨20, .guard⟩, by simp, rfl, rfl⟩, rfl, rfl, by decide, rfl⟩, fun a' W hB hold he K hK => fx_pick (.tmp 62) (.tmp 66) (.const (.bool false)) false _ rfl (he ⟨22, .data⟩ (by simp) rfl) rfl (hK _ (Below.refl _ _))⟩
    · exact .inl ⟨.inl rfl, fun a' W hB hold he K hK => fx_pick (.tmp 60) (.const (.bool true)) (.tmp 67) false _ rfl (he ⟨20, .data⟩ (by simp) rfl) (he ⟨27, .data⟩ (by simp) rfl) (hK _ (Below.refl _ _))⟩
    · exact .inl ⟨.inl rfl, fun a' W hB hold he K hK => fx_move (.tmp 68) _ (.inl rfl) (he ⟨28, .data⟩ (by simp) rfl) (hK _ (Below.refl _ _))⟩
    · exact .inl ⟨.inr ⟨29, false, _, rfl, ⟨⟨29, .guard⟩, by simp, rfl, rfl⟩, rfl, rfl, by decide, rfl⟩, fun a' W hB hold he K hK => fx_move (.tmp 14) _ (.inl rfl) (hold 14 (by decide)) (hK _ (Below.refl _ _))⟩
    · exact .inl ⟨.inr ⟨29, false, _, rfl, ⟨⟨29, .guard⟩, by simp, rfl, rfl⟩, rfl, rfl, by decide, rfl⟩, fun a' W hB hold he K hK => fx_not 4 (.tmp 70) _ rfl (he ⟨30, .data⟩ (by simp) rfl) (hK _ (Below.refl _ _))⟩
    · exact .inl ⟨.inr ⟨29, false, _, rfl, ⟨⟨29, .guard⟩, by simp, rfl, rfl⟩, rfl, rfl, by decide, rfl⟩, fun a' W hB hold he K hK => fx_move (.tmp 71) _ (.inl rfl) (he ⟨31, .data⟩ (by simp) rfl) (hK _ (Below.refl _ _))⟩
    · exact .inl ⟨.inr ⟨32, true, _, rfl, ⟨⟨32, .guard⟩, by simp, rfl, rfl⟩, rfl, rfl, by decide, rfl⟩, fun a' W hB hold he K hK => fx_move (.tmp 9) _ (.inl rfl) (hold 9 (by decide)) (hK _ (Below.refl _ _))⟩
    · exact .inl ⟨.inr ⟨32, true, _, rfl, ⟨⟨32, .guard⟩, by simp, rfl, rfl⟩, rfl, rfl, by decide, rfl⟩, fun a' W hB hold he K hK => fx_bin .neq 23 23 (.tmp 73) (.const (.int .u64 0)) _ _ _ rfl (he ⟨33, .data⟩ (by simp) rfl) rfl (by kernel_rfl) (by kernel_rfl) (hK _ (Below.refl _ _))⟩
    · exact .inl ⟨.inr ⟨29, false, _, rfl, ⟨⟨29, .guard⟩, by simp, rfl, rfl⟩, rfl, rfl, by decide, rfl⟩, fun a' W hB hold he K hK => fx_pick (.tmp 72) (.tmp 74) (.const (.bool false)) true _ rfl (he ⟨32, .data⟩ (by simp) rfl) (he ⟨34, .data⟩ (by simp) rfl) (hK _ (Below.refl _ _))⟩
    · exact .inl ⟨.inl rfl, fun a' W hB hold he K hK => fx_pick (.tmp 69) (.const (.bool true)) (.tmp 75) false _ rfl (he ⟨29, .data⟩ (by simp) rfl) (he ⟨35, .data⟩ (by simp) rfl) (hK _ (Below.refl _ _))⟩
    · exact .inl ⟨.inl rfl, fun a' W hB hold he K hK => fx_move (.tmp 76) _ (.inl rfl) (he ⟨36, .data⟩ (by simp) rfl) (hK _ (Below.refl _ _))⟩
    · exact .inl ⟨.inr ⟨37, false, _, rfl, ⟨⟨37, .guard⟩, by simp, rfl, rfl⟩, rfl, rfl, by decide, rfl⟩, fun a' W hB hold he K hK => fx_move (.tmp 5) _ (.inl rfl) (hold 5 (by decide)) (hK _ (Below.refl _ _))⟩
    · exact .inl ⟨.inr ⟨37, false, _, rfl, ⟨⟨37, .guard⟩, by simp, rfl, rfl⟩, rfl, rfl, by decide, rfl⟩, fun a' W hB hold he K hK => (by have h0 : a'.eval (.tmp 78) = _ := (he ⟨38, .data⟩ (by simp) rfl); exact wp_step_call 36 #[_] (by simp only [execOp, h0]; simp [go_sem]; simp_all [Act.eval]) ((HT.out W).mono (by rintro e1 w' ⟨rfl, hb⟩; exact ⟨_, rfl, hK _ hb⟩)))⟩
    · exact .inl ⟨.inr ⟨37, false, _, rfl, ⟨⟨37, .guard⟩, by simp, rfl, rfl⟩, rfl, rfl, by decide, rfl⟩, fun a' W hB hold he K hK => wp_step_load 25 (.tmp 7) _ rfl _ (hold 7 (by decide)) (load_v22 W _ _ _ _ _ _ _ (X9.out.below hB X9.out.lt)) (hK _ (Below.refl _ _))⟩
    · exact .inl ⟨.inr ⟨37, false, _, rfl, ⟨⟨37, .guard⟩, by simp, rfl, rfl⟩, rfl, rfl, by decide, rfl⟩, fun a' W hB hold he K hK => (by have h0 : a'.eval (.tmp 80) = _ := (he ⟨40, .data⟩ (by simp) rfl); exact wp_step_call 33 #[_] (by simp only [execOp, h0]; simp [go_sem]; simp_all [Act.eval]) ((HR.out W).mono (by rintro e1 w' ⟨rfl, hb⟩; exact ⟨_, rfl, hK _ hb⟩)))⟩
    · exact .inl ⟨.inr ⟨37, false, _, rfl, ⟨⟨37, .guard⟩, by simp, rfl, rfl⟩, rfl, rfl, by decide, rfl⟩, fun a' W hB hold he K hK => fx_bin .neq 4 4 (.tmp 79) (.tmp 81) _ _ _ rfl (he ⟨39, .data⟩ (by simp) rfl) (he ⟨41, .data⟩ (by simp) rfl) (by kernel_rfl) (by kernel_rfl) (hK _ (Below.refl _ _))⟩
    · exact .inl ⟨.inl rfl, fun a' W hB hold he K hK => fx_pick (.tmp 77) (.const (.bool true)) (.tmp 82) false _ rfl (he ⟨37, .data⟩ (by simp) rfl) (he ⟨42, .data⟩ (by simp) rfl) (hK _ (Below.refl _ _))⟩
    · exact .inl ⟨.inl rfl, fun a' W hB hold he K hK => fx_move (.tmp 83) _ (.inl rfl) (he ⟨43, .data⟩ (by simp) rfl) (hK _ (Below.refl _ _))⟩
    · exact .inl ⟨.inr ⟨44, false, _, rfl, ⟨⟨44, .guard⟩, by simp, rfl, rfl⟩, rfl, rfl, by decide, rfl⟩, fun a' W hB hold he K hK => fx_move (.tmp 12) _ (.inl rfl) (hold 12 (by decide)) (hK _ (Below.refl _ _))⟩
    · exact .inl ⟨.inr ⟨44, false, _, rfl, ⟨⟨44, .guard⟩, by simp, rfl, rfl⟩, rfl, rfl, by decide, rfl⟩, fun a' W hB hold he K hK => wp_step_load 25 (.tmp 7) _ rfl _ (hold 7 (by decide)) (load_v22 W _ _ _ _ _ _ _ (X9.out.below hB X9.out.lt)) (hK _ (Below.refl _ _))⟩
    · exact .inl ⟨.inr ⟨44, false, _, rfl, ⟨⟨44, .guard⟩, by simp, rfl, rfl⟩, rfl, rfl, by decide, rfl⟩, fun a' W hB hold he K hK => (by have h0 : a'.eval (.tmp 86) = _ := (he ⟨46, .data⟩ (by simp) rfl); exact wp_step_call 33 #[_] (by simp only [execOp, h0]; simp [go_sem]; simp_all [Act.eval]) ((HR.out W).mono (by rintro e1 w' ⟨rfl, hb⟩; exact ⟨_, rfl, hK _ hb⟩)))⟩
    · exact .inl ⟨.inr ⟨44, false, _, rfl, ⟨⟨44, .guard⟩, by simp, rfl, rfl⟩, rfl, rfl, by decide, rfl⟩, fun a' W hB hold he K hK => fx_bin .neq 4 4 (.tmp 85) (.tmp 87) _ _ _ rfl (he ⟨45, .data⟩ (by simp) rfl) (he ⟨47, .data⟩ (by simp) rfl) (by kernel_rfl) (by kernel_rfl) (hK _ (Below.refl _ _))⟩
    · exact .inl ⟨.inl rfl, fun a' W hB hold he K hK => fx_pick (.tmp 84) (.const (.bool true)) (.tmp 88) false _ rfl (he ⟨44, .data⟩ (by simp) rfl) (he ⟨48, .data⟩ (by simp) rfl) (hK _ (Below.refl _ _))⟩
    · exact .inl ⟨.inl rfl, fun a' W hB hold he K hK => fx_move (.tmp 89) _ (.inl rfl) (he ⟨49, .data⟩ (by simp) rfl) (hK _ (Below.refl _ _))⟩
    · exact .inl ⟨.inr ⟨50, false, _, rfl, ⟨⟨50, .guard⟩, by simp, rfl, rfl⟩, rfl, rfl, by decide, rfl⟩, fun a' W hB hold he K hK => fx_move (.tmp 11) _ (.inl rfl) (hold 11 (by decide)) (hK _ (Below.refl _ _))⟩
    · exact .inl ⟨.inr ⟨50, false, _, rfl, ⟨⟨50, .guard⟩, by simp, rfl, rfl⟩, rfl, rfl, by decide, rfl⟩, fun a' W hB hold he K hK => fx_move (.tmp 13) _ (.inl rfl) (hold 13 (by decide)) (hK _ (Below.refl _ _))⟩
    · exact .inl ⟨.inr ⟨50, false, _, rfl, ⟨⟨50, .guard⟩, by simp, rfl, rfl⟩, rfl, rfl, by decide, rfl⟩, fun a' W hB hold he K hK => fx_bin .neq 3 3 (.tmp 91) (.tmp 92) _ _ _ rfl (he ⟨51, .data⟩ (by simp) rfl) (he ⟨52, .data⟩ (by simp) rfl) (by kernel_rfl) (by kernel_rfl) (hK _ (Below.refl _ _))⟩
  intro W10 hb
  have HV := hide (HV.out.below hb HV.out.lt)
  have B := hide ((below_on B hb))
  clear hb X9 Z9
  have cv0 : W10.cell? ⟨w.heap.size, 0, none⟩ = some (.int .u8 s) := HV.out.cell 0
  have cv1 : W10.cell? ⟨w.heap.size, 1, none⟩ = some (.int .u64 n) := HV.out.cell 1
  have cv2 : W10.cell? ⟨w.heap.size, 2, none⟩ = some (.int .i64 x) := HV.out.cell 2
  have cv3 : W10.cell? ⟨w.heap.size, 3, none⟩ = some (.int .i64 y) := HV.out.cell 3
  have cv4 : W10.cell? ⟨w.heap.size, 4, none⟩ = some (.int .i64 o) := HV.out.cell 4
  have cv5 : W10.cell? ⟨w.heap.size, 5, none⟩ = some (.int .u64 g) := HV.out.cell 5
  simp only [putAll, List.length_cons, List.length_nil, Nat.reduceAdd, List.drop_succ_cons, List.drop_zero]
  go_wp2_with fail
  refine (HP.out _).mono ?_
  rintro e1 w11 ⟨rfl, hb⟩
  have B11 := hide (below_on B.out hb)
  clear hb cv0 cv1 cv2 cv3 cv4 cv5
  go_wp2_with fail
  refine (HL.out _).mono ?_
  rintro e1 w12 ⟨rfl, hb⟩
  have B12 := hide (below_on B11.out hb)
  clear hb
  go_wp2_with fail
  go_returns
  exact ⟨rfl, B12.out⟩

end Go.Proofs.Ytcddpmiandgkjaa
