import Derived.Test.YtcddpmiandgkjaaVal8
import Derived.Test.YtcddpmiandgkjaaWf
/-! The law ValueNear, walked. -/
namespace Go.Proofs.Ytcddpmiandgkjaa
open Go.RowKit
set_option maxHeartbeats 2000000
set_option maxRecDepth 100000
set_option linter.unusedSimpArgs false

theorem moved_ok (v : AV) (o d p : Int) (hi : v.is = true) (ha : v.at = some o) (h1 : nearB o) (h2 : -1073741824 ≤ d ∧ d ≤ 1073741824) (h3 : o + d = p) (h4 : nearB p) : v.moved d = (v.to p, 0) := by
  unfold AV.moved
  rw [hi, ha]
  simp only [if_true]
  rw [if_pos ⟨h1, h2, by rw [h3]; exact h4⟩, h3]

theorem moved_not (v : AV) (o d p : Int) (hi : v.is = true) (ha : v.at = some o) (h3 : o + d = p) (h4 : ¬ nearB p) : v.moved d = (.nil, 222) := by
  unfold AV.moved
  rw [hi, ha]
  simp only [if_true]
  rw [if_neg (fun h => h4 (by rw [← h3]; exact h.2.2))]

theorem vnear_ctx_0 (w : World) (sort over frm : Int) (hs : 0 ≤ sort ∧ sort < 256) (ho : -128 ≤ over ∧ over ≤ 127) (hf : -128 ≤ frm ∧ frm ≤ 127) (hq : sort % 4 = 0) (hz : over ≤ 0) :
    Calls Try.prog 8 #[.int .u8 sort, .int .i8 over, .int .i8 frm] w fun e w' => e = .returned (.bool true) ∧ Below w.heap.size w w' := by
  have CA := hide (fun w => val_any w ⟨2, 0, 0, 0, frm, 0⟩)
  have CM := hide (fun w => val_moved w (.ctx frm) (536870912 - frm + over))
  have CN := hide (fun w => val_moved w (.ctx frm) (-536870912 - frm - over))
  have hv : V22.av ⟨2, 0, 0, 0, frm, 0⟩ = .ctx frm := rfl
  rw [hv] at CA
  rw [moved_ok (.ctx frm) frm _ (536870912 + over) rfl rfl (by unfold nearB; omega) (by omega) (by omega) (by unfold nearB; omega)] at CM
  rw [moved_ok (.ctx frm) frm _ (-536870912 - over) rfl rfl (by unfold nearB; omega) (by omega) (by omega) (by unfold nearB; omega)] at CN
  have CO := hide (fun w => val_off w (.ctx (536870912 + over)))
  have CP := hide (fun w => val_off w (.ctx (-536870912 - over)))
  have CL := hide (fun w => val_alive w)
  clear hv
  simp only [AV.enc, AV.to, AV.isNum, AV.is, AV.at, Option.isSome, Option.getD, V22.agg, V22.none] at CA CM CN CO CP
  have W0 : IntKind.i64.wrap frm = frm := by rw [IntKind.wrap_i64]; omega
  have W1 : IntKind.i64.wrap over = over := by rw [IntKind.wrap_i64]; omega
  have W2 : IntKind.i64.wrap (536870912 - frm) = 536870912 - frm := by rw [IntKind.wrap_i64]; omega
  have W3 : IntKind.i64.wrap (536870912 - frm + over) = 536870912 - frm + over := by rw [IntKind.wrap_i64]; omega
  have W4 : IntKind.i64.wrap (-536870912 - frm) = -536870912 - frm := by rw [IntKind.wrap_i64]; omega
  have W5 : IntKind.i64.wrap (-536870912 - frm - over) = -536870912 - frm - over := by rw [IntKind.wrap_i64]; omega
  have W6 : IntKind.i64.wrap (536870912 + over) = 536870912 + over := by rw [IntKind.wrap_i64]; omega
  have W7 : IntKind.i64.wrap (-536870912 - over) = -536870912 - over := by rw [IntKind.wrap_i64]; omega
  have D1 : decide (over ≤ 0) = true := by simp; omega
  have D2 : decide (0 < over) = false := by simp; omega
  have B := Below.refl w.heap.size w
  go_enter Try.func8, Try.ntmps8
  go_wp2_with fail
  refine (CA.out _).mono ?_
  rintro e w1 ⟨rfl, hb⟩
  have HV := hide ((Has.last (w.alloc (.cells #[.int .u8 2, .int .u8 3, .int .u8 5, .int .u8 6] 5)) 25 #[.int .u8 2, .int .u64 0, .int .i64 0, .int .i64 0, .int .i64 frm, .int .u64 0] (k := w.heap.size + 1) (by simp)).below hb (by simp))
  replace B := below_on B (below_on (by go_grown) hb)
  clear hb
  go_wp2_with fail
  refine (CM.out _).mono ?_
  rintro e w2 ⟨rfl, hb⟩
  replace HV := hide (HV.out.below hb HV.out.lt)
  have c0 : w2.cell? ⟨w.heap.size + 1, 0, none⟩ = some (.int .u8 2) := HV.out.cell 0
  have c1 : w2.cell? ⟨w.heap.size + 1, 1, none⟩ = some (.int .u64 0) := HV.out.cell 1
  have c2 : w2.cell? ⟨w.heap.size + 1, 2, none⟩ = some (.int .i64 0) := HV.out.cell 2
  have c3 : w2.cell? ⟨w.heap.size + 1, 3, none⟩ = some (.int .i64 0) := HV.out.cell 3
  have c4 : w2.cell? ⟨w.heap.size + 1, 4, none⟩ = some (.int .i64 frm) := HV.out.cell 4
  have c5 : w2.cell? ⟨w.heap.size + 1, 5, none⟩ = some (.int .u64 0) := HV.out.cell 5
  replace B := below_on B (below_on (by go_grown) hb)
  clear hb
  go_wp2_with fail
  refine (CA.out _).mono ?_
  rintro e w3 ⟨rfl, hb⟩
  clear c0 c1 c2 c3 c4 c5
  replace B := below_on B (below_on (by go_grown) hb)
  clear hb
  go_wp2_with fail
  refine (CN.out _).mono ?_
  rintro e w4 ⟨rfl, hb⟩
  replace B := below_on B (below_on (by go_grown) hb)
  clear hb
  go_wp2_with fail
  refine (CO.out _).mono ?_
  rintro e w5 ⟨rfl, hb⟩
  replace B := below_on B (below_on (by go_grown) hb)
  clear hb
  go_wp2_with fail
  refine (CP.out _).mono ?_
  rintro e w6 ⟨rfl, hb⟩
  replace B := below_on B (below_on (by go_grown) hb)
  clear hb
  go_wp2_with fail
  refine (CL.out _).mono ?_
  rintro e w7 ⟨rfl, hb⟩
  replace B := below_on B (below_on (by go_grown) hb)
  clear hb
  go_wp2_with fail
  go_returns
  exact ⟨rfl, B⟩

theorem vnear_ctx_1 (w : World) (sort over frm : Int) (hs : 0 ≤ sort ∧ sort < 256) (ho : -128 ≤ over ∧ over ≤ 127) (hf : -128 ≤ frm ∧ frm ≤ 127) (hq : sort % 4 = 0) (hz : 0 < over) :
    Calls Try.prog 8 #[.int .u8 sort, .int .i8 over, .int .i8 frm] w fun e w' => e = .returned (.bool true) ∧ Below w.heap.size w w' := by
  have CA := hide (fun w => val_any w ⟨2, 0, 0, 0, frm, 0⟩)
  have CM := hide (fun w => val_moved w (.ctx frm) (536870912 - frm + over))
  have CN := hide (fun w => val_moved w (.ctx frm) (-536870912 - frm - over))
  have hv : V22.av ⟨2, 0, 0, 0, frm, 0⟩ = .ctx frm := rfl
  rw [hv] at CA
  rw [moved_not (.ctx frm) frm _ (536870912 + over) rfl rfl (by omega) (by unfold nearB; omega)] at CM
  rw [moved_not (.ctx frm) frm _ (-536870912 - over) rfl rfl (by omega) (by unfold nearB; omega)] at CN
  have CI := hide (fun w => val_law_is w .nil V22.none)
  rw [show decide (AV.plain .nil = V22.none) = true from by decide] at CI
  have CL := hide (fun w => val_alive w)
  clear hv
  simp only [AV.enc, AV.to, AV.isNum, AV.is, AV.at, Option.isSome, Option.getD, V22.agg, V22.none] at CA CM CN CI
  have W0 : IntKind.i64.wrap frm = frm := by rw [IntKind.wrap_i64]; omega
  have W1 : IntKind.i64.wrap over = over := by rw [IntKind.wrap_i64]; omega
  have W2 : IntKind.i64.wrap (536870912 - frm) = 536870912 - frm := by rw [IntKind.wrap_i64]; omega
  have W3 : IntKind.i64.wrap (536870912 - frm + over) = 536870912 - frm + over := by rw [IntKind.wrap_i64]; omega
  have W4 : IntKind.i64.wrap (-536870912 - frm) = -536870912 - frm := by rw [IntKind.wrap_i64]; omega
  have W5 : IntKind.i64.wrap (-536870912 - frm - over) = -536870912 - frm - over := by rw [IntKind.wrap_i64]; omega
  have W6 : IntKind.i64.wrap (536870912 + over) = 536870912 + over := by rw [IntKind.wrap_i64]; omega
  have W7 : IntKind.i64.wrap (-536870912 - over) = -536870912 - over := by rw [IntKind.wrap_i64]; omega
  have D1 : decide (over ≤ 0) = false := by simp; omega
  have D2 : decide (0 < over) = true := by simp; omega
  have B := Below.refl w.heap.size w
  go_enter Try.func8, Try.ntmps8
  go_wp2_with fail
  refine (CA.out _).mono ?_
  rintro e w1 ⟨rfl, hb⟩
  have HV := hide ((Has.last (w.alloc (.cells #[.int .u8 2, .int .u8 3, .int .u8 5, .int .u8 6] 5)) 25 #[.int .u8 2, .int .u64 0, .int .i64 0, .int .i64 0, .int .i64 frm, .int .u64 0] (k := w.heap.size + 1) (by simp)).below hb (by simp))
  replace B := below_on B (below_on (by go_grown) hb)
  clear hb
  go_wp2_with fail
  refine (CM.out _).mono ?_
  rintro e w2 ⟨rfl, hb⟩
  replace HV := hide (HV.out.below hb HV.out.lt)
  have c0 : w2.cell? ⟨w.heap.size + 1, 0, none⟩ = some (.int .u8 2) := HV.out.cell 0
  have c1 : w2.cell? ⟨w.heap.size + 1, 1, none⟩ = some (.int .u64 0) := HV.out.cell 1
  have c2 : w2.cell? ⟨w.heap.size + 1, 2, none⟩ = some (.int .i64 0) := HV.out.cell 2
  have c3 : w2.cell? ⟨w.heap.size + 1, 3, none⟩ = some (.int .i64 0) := HV.out.cell 3
  have c4 : w2.cell? ⟨w.heap.size + 1, 4, none⟩ = some (.int .i64 frm) := HV.out.cell 4
  have c5 : w2.cell? ⟨w.heap.size + 1, 5, none⟩ = some (.int .u64 0) := HV.out.cell 5
  replace B := below_on B (below_on (by go_grown) hb)
  clear hb
  go_wp2_with fail
  refine (CA.out _).mono ?_
  rintro e w3 ⟨rfl, hb⟩
  clear c0 c1 c2 c3 c4 c5
  replace B := below_on B (below_on (by go_grown) hb)
  clear hb
  go_wp2_with fail
  refine (CN.out _).mono ?_
  rintro e w4 ⟨rfl, hb⟩
  replace B := below_on B (below_on (by go_grown) hb)
  clear hb
  go_wp2_with fail
  refine (CI.out _).mono ?_
  rintro e w5 ⟨rfl, hb⟩
  replace B := below_on B (below_on (by go_grown) hb)
  clear hb
  go_wp2_with fail
  refine (CI.out _).mono ?_
  rintro e w6 ⟨rfl, hb⟩
  replace B := below_on B (below_on (by go_grown) hb)
  clear hb
  go_wp2_with fail
  refine (CL.out _).mono ?_
  rintro e w7 ⟨rfl, hb⟩
  replace B := below_on B (below_on (by go_grown) hb)
  clear hb
  go_wp2_with fail
  go_returns
  exact ⟨rfl, B⟩

theorem vnear_fp_0 (w : World) (sort over frm : Int) (hs : 0 ≤ sort ∧ sort < 256) (ho : -128 ≤ over ∧ over ≤ 127) (hf : -128 ≤ frm ∧ frm ≤ 127) (hq : sort % 4 = 1) (hz : over ≤ 0) :
    Calls Try.prog 8 #[.int .u8 sort, .int .i8 over, .int .i8 frm] w fun e w' => e = .returned (.bool true) ∧ Below w.heap.size w w' := by
  have CA := hide (fun w => val_any w ⟨3, 0, 0, 0, frm, 0⟩)
  have CM := hide (fun w => val_moved w (.fp 0 frm) (536870912 - frm + over))
  have CN := hide (fun w => val_moved w (.fp 0 frm) (-536870912 - frm - over))
  have hv : V22.av ⟨3, 0, 0, 0, frm, 0⟩ = .fp 0 frm := rfl
  rw [hv] at CA
  rw [moved_ok (.fp 0 frm) frm _ (536870912 + over) rfl rfl (by unfold nearB; omega) (by omega) (by omega) (by unfold nearB; omega)] at CM
  rw [moved_ok (.fp 0 frm) frm _ (-536870912 - over) rfl rfl (by unfold nearB; omega) (by omega) (by omega) (by unfold nearB; omega)] at CN
  have CO := hide (fun w => val_off w (.fp 0 (536870912 + over)))
  have CP := hide (fun w => val_off w (.fp 0 (-536870912 - over)))
  have CL := hide (fun w => val_alive w)
  clear hv
  simp only [AV.enc, AV.to, AV.isNum, AV.is, AV.at, Option.isSome, Option.getD, V22.agg, V22.none] at CA CM CN CO CP
  have W0 : IntKind.i64.wrap frm = frm := by rw [IntKind.wrap_i64]; omega
  have W1 : IntKind.i64.wrap over = over := by rw [IntKind.wrap_i64]; omega
  have W2 : IntKind.i64.wrap (536870912 - frm) = 536870912 - frm := by rw [IntKind.wrap_i64]; omega
  have W3 : IntKind.i64.wrap (536870912 - frm + over) = 536870912 - frm + over := by rw [IntKind.wrap_i64]; omega
  have W4 : IntKind.i64.wrap (-536870912 - frm) = -536870912 - frm := by rw [IntKind.wrap_i64]; omega
  have W5 : IntKind.i64.wrap (-536870912 - frm - over) = -536870912 - frm - over := by rw [IntKind.wrap_i64]; omega
  have W6 : IntKind.i64.wrap (536870912 + over) = 536870912 + over := by rw [IntKind.wrap_i64]; omega
  have W7 : IntKind.i64.wrap (-536870912 - over) = -536870912 - over := by rw [IntKind.wrap_i64]; omega
  have D1 : decide (over ≤ 0) = true := by simp; omega
  have D2 : decide (0 < over) = false := by simp; omega
  have B := Below.refl w.heap.size w
  go_enter Try.func8, Try.ntmps8
  go_wp2_with fail
  refine (CA.out _).mono ?_
  rintro e w1 ⟨rfl, hb⟩
  have HV := hide ((Has.last (w.alloc (.cells #[.int .u8 2, .int .u8 3, .int .u8 5, .int .u8 6] 5)) 25 #[.int .u8 3, .int .u64 0, .int .i64 0, .int .i64 0, .int .i64 frm, .int .u64 0] (k := w.heap.size + 1) (by simp)).below hb (by simp))
  replace B := below_on B (below_on (by go_grown) hb)
  clear hb
  go_wp2_with fail
  refine (CM.out _).mono ?_
  rintro e w2 ⟨rfl, hb⟩
  replace HV := hide (HV.out.below hb HV.out.lt)
  have c0 : w2.cell? ⟨w.heap.size + 1, 0, none⟩ = some (.int .u8 3) := HV.out.cell 0
  have c1 : w2.cell? ⟨w.heap.size + 1, 1, none⟩ = some (.int .u64 0) := HV.out.cell 1
  have c2 : w2.cell? ⟨w.heap.size + 1, 2, none⟩ = some (.int .i64 0) := HV.out.cell 2
  have c3 : w2.cell? ⟨w.heap.size + 1, 3, none⟩ = some (.int .i64 0) := HV.out.cell 3
  have c4 : w2.cell? ⟨w.heap.size + 1, 4, none⟩ = some (.int .i64 frm) := HV.out.cell 4
  have c5 : w2.cell? ⟨w.heap.size + 1, 5, none⟩ = some (.int .u64 0) := HV.out.cell 5
  replace B := below_on B (below_on (by go_grown) hb)
  clear hb
  go_wp2_with fail
  refine (CA.out _).mono ?_
  rintro e w3 ⟨rfl, hb⟩
  clear c0 c1 c2 c3 c4 c5
  replace B := below_on B (below_on (by go_grown) hb)
  clear hb
  go_wp2_with fail
  refine (CN.out _).mono ?_
  rintro e w4 ⟨rfl, hb⟩
  replace B := below_on B (below_on (by go_grown) hb)
  clear hb
  go_wp2_with fail
  refine (CO.out _).mono ?_
  rintro e w5 ⟨rfl, hb⟩
  replace B := below_on B (below_on (by go_grown) hb)
  clear hb
  go_wp2_with fail
  refine (CP.out _).mono ?_
  rintro e w6 ⟨rfl, hb⟩
  replace B := below_on B (below_on (by go_grown) hb)
  clear hb
  go_wp2_with fail
  refine (CL.out _).mono ?_
  rintro e w7 ⟨rfl, hb⟩
  replace B := below_on B (below_on (by go_grown) hb)
  clear hb
  go_wp2_with fail
  go_returns
  exact ⟨rfl, B⟩

theorem vnear_fp_1 (w : World) (sort over frm : Int) (hs : 0 ≤ sort ∧ sort < 256) (ho : -128 ≤ over ∧ over ≤ 127) (hf : -128 ≤ frm ∧ frm ≤ 127) (hq : sort % 4 = 1) (hz : 0 < over) :
    Calls Try.prog 8 #[.int .u8 sort, .int .i8 over, .int .i8 frm] w fun e w' => e = .returned (.bool true) ∧ Below w.heap.size w w' := by
  have CA := hide (fun w => val_any w ⟨3, 0, 0, 0, frm, 0⟩)
  have CM := hide (fun w => val_moved w (.fp 0 frm) (536870912 - frm + over))
  have CN := hide (fun w => val_moved w (.fp 0 frm) (-536870912 - frm - over))
  have hv : V22.av ⟨3, 0, 0, 0, frm, 0⟩ = .fp 0 frm := rfl
  rw [hv] at CA
  rw [moved_not (.fp 0 frm) frm _ (536870912 + over) rfl rfl (by omega) (by unfold nearB; omega)] at CM
  rw [moved_not (.fp 0 frm) frm _ (-536870912 - over) rfl rfl (by omega) (by unfold nearB; omega)] at CN
  have CI := hide (fun w => val_law_is w .nil V22.none)
  rw [show decide (AV.plain .nil = V22.none) = true from by decide] at CI
  have CL := hide (fun w => val_alive w)
  clear hv
  simp only [AV.enc, AV.to, AV.isNum, AV.is, AV.at, Option.isSome, Option.getD, V22.agg, V22.none] at CA CM CN CI
  have W0 : IntKind.i64.wrap frm = frm := by rw [IntKind.wrap_i64]; omega
  have W1 : IntKind.i64.wrap over = over := by rw [IntKind.wrap_i64]; omega
  have W2 : IntKind.i64.wrap (536870912 - frm) = 536870912 - frm := by rw [IntKind.wrap_i64]; omega
  have W3 : IntKind.i64.wrap (536870912 - frm + over) = 536870912 - frm + over := by rw [IntKind.wrap_i64]; omega
  have W4 : IntKind.i64.wrap (-536870912 - frm) = -536870912 - frm := by rw [IntKind.wrap_i64]; omega
  have W5 : IntKind.i64.wrap (-536870912 - frm - over) = -536870912 - frm - over := by rw [IntKind.wrap_i64]; omega
  have W6 : IntKind.i64.wrap (536870912 + over) = 536870912 + over := by rw [IntKind.wrap_i64]; omega
  have W7 : IntKind.i64.wrap (-536870912 - over) = -536870912 - over := by rw [IntKind.wrap_i64]; omega
  have D1 : decide (over ≤ 0) = false := by simp; omega
  have D2 : decide (0 < over) = true := by simp; omega
  have B := Below.refl w.heap.size w
  go_enter Try.func8, Try.ntmps8
  go_wp2_with fail
  refine (CA.out _).mono ?_
  rintro e w1 ⟨rfl, hb⟩
  have HV := hide ((Has.last (w.alloc (.cells #[.int .u8 2, .int .u8 3, .int .u8 5, .int .u8 6] 5)) 25 #[.int .u8 3, .int .u64 0, .int .i64 0, .int .i64 0, .int .i64 frm, .int .u64 0] (k := w.heap.size + 1) (by simp)).below hb (by simp))
  replace B := below_on B (below_on (by go_grown) hb)
  clear hb
  go_wp2_with fail
  refine (CM.out _).mono ?_
  rintro e w2 ⟨rfl, hb⟩
  replace HV := hide (HV.out.below hb HV.out.lt)
  have c0 : w2.cell? ⟨w.heap.size + 1, 0, none⟩ = some (.int .u8 3) := HV.out.cell 0
  have c1 : w2.cell? ⟨w.heap.size + 1, 1, none⟩ = some (.int .u64 0) := HV.out.cell 1
  have c2 : w2.cell? ⟨w.heap.size + 1, 2, none⟩ = some (.int .i64 0) := HV.out.cell 2
  have c3 : w2.cell? ⟨w.heap.size + 1, 3, none⟩ = some (.int .i64 0) := HV.out.cell 3
  have c4 : w2.cell? ⟨w.heap.size + 1, 4, none⟩ = some (.int .i64 frm) := HV.out.cell 4
  have c5 : w2.cell? ⟨w.heap.size + 1, 5, none⟩ = some (.int .u64 0) := HV.out.cell 5
  replace B := below_on B (below_on (by go_grown) hb)
  clear hb
  go_wp2_with fail
  refine (CA.out _).mono ?_
  rintro e w3 ⟨rfl, hb⟩
  clear c0 c1 c2 c3 c4 c5
  replace B := below_on B (below_on (by go_grown) hb)
  clear hb
  go_wp2_with fail
  refine (CN.out _).mono ?_
  rintro e w4 ⟨rfl, hb⟩
  replace B := below_on B (below_on (by go_grown) hb)
  clear hb
  go_wp2_with fail
  refine (CI.out _).mono ?_
  rintro e w5 ⟨rfl, hb⟩
  replace B := below_on B (below_on (by go_grown) hb)
  clear hb
  go_wp2_with fail
  refine (CI.out _).mono ?_
  rintro e w6 ⟨rfl, hb⟩
  replace B := below_on B (below_on (by go_grown) hb)
  clear hb
  go_wp2_with fail
  refine (CL.out _).mono ?_
  rintro e w7 ⟨rfl, hb⟩
  replace B := below_on B (below_on (by go_grown) hb)
  clear hb
  go_wp2_with fail
  go_returns
  exact ⟨rfl, B⟩

theorem vnear_val_0 (w : World) (sort over frm : Int) (hs : 0 ≤ sort ∧ sort < 256) (ho : -128 ≤ over ∧ over ≤ 127) (hf : -128 ≤ frm ∧ frm ≤ 127) (hq : sort % 4 = 2) (hz : over ≤ 0) :
    Calls Try.prog 8 #[.int .u8 sort, .int .i8 over, .int .i8 frm] w fun e w' => e = .returned (.bool true) ∧ Below w.heap.size w w' := by
  have CA := hide (fun w => val_any w ⟨5, 0, 0, 0, frm, 0⟩)
  have CM := hide (fun w => val_moved w (.val 0 0 frm) (536870912 - frm + over))
  have CN := hide (fun w => val_moved w (.val 0 0 frm) (-536870912 - frm - over))
  have hv : V22.av ⟨5, 0, 0, 0, frm, 0⟩ = .val 0 0 frm := rfl
  rw [hv] at CA
  rw [moved_ok (.val 0 0 frm) frm _ (536870912 + over) rfl rfl (by unfold nearB; omega) (by omega) (by omega) (by unfold nearB; omega)] at CM
  rw [moved_ok (.val 0 0 frm) frm _ (-536870912 - over) rfl rfl (by unfold nearB; omega) (by omega) (by omega) (by unfold nearB; omega)] at CN
  have CO := hide (fun w => val_off w (.val 0 0 (536870912 + over)))
  have CP := hide (fun w => val_off w (.val 0 0 (-536870912 - over)))
  have CL := hide (fun w => val_alive w)
  clear hv
  simp only [AV.enc, AV.to, AV.isNum, AV.is, AV.at, Option.isSome, Option.getD, V22.agg, V22.none] at CA CM CN CO CP
  have W0 : IntKind.i64.wrap frm = frm := by rw [IntKind.wrap_i64]; omega
  have W1 : IntKind.i64.wrap over = over := by rw [IntKind.wrap_i64]; omega
  have W2 : IntKind.i64.wrap (536870912 - frm) = 536870912 - frm := by rw [IntKind.wrap_i64]; omega
  have W3 : IntKind.i64.wrap (536870912 - frm + over) = 536870912 - frm + over := by rw [IntKind.wrap_i64]; omega
  have W4 : IntKind.i64.wrap (-536870912 - frm) = -536870912 - frm := by rw [IntKind.wrap_i64]; omega
  have W5 : IntKind.i64.wrap (-536870912 - frm - over) = -536870912 - frm - over := by rw [IntKind.wrap_i64]; omega
  have W6 : IntKind.i64.wrap (536870912 + over) = 536870912 + over := by rw [IntKind.wrap_i64]; omega
  have W7 : IntKind.i64.wrap (-536870912 - over) = -536870912 - over := by rw [IntKind.wrap_i64]; omega
  have D1 : decide (over ≤ 0) = true := by simp; omega
  have D2 : decide (0 < over) = false := by simp; omega
  have B := Below.refl w.heap.size w
  go_enter Try.func8, Try.ntmps8
  go_wp2_with fail
  refine (CA.out _).mono ?_
  rintro e w1 ⟨rfl, hb⟩
  have HV := hide ((Has.last (w.alloc (.cells #[.int .u8 2, .int .u8 3, .int .u8 5, .int .u8 6] 5)) 25 #[.int .u8 5, .int .u64 0, .int .i64 0, .int .i64 0, .int .i64 frm, .int .u64 0] (k := w.heap.size + 1) (by simp)).below hb (by simp))
  replace B := below_on B (below_on (by go_grown) hb)
  clear hb
  go_wp2_with fail
  refine (CM.out _).mono ?_
  rintro e w2 ⟨rfl, hb⟩
  replace HV := hide (HV.out.below hb HV.out.lt)
  have c0 : w2.cell? ⟨w.heap.size + 1, 0, none⟩ = some (.int .u8 5) := HV.out.cell 0
  have c1 : w2.cell? ⟨w.heap.size + 1, 1, none⟩ = some (.int .u64 0) := HV.out.cell 1
  have c2 : w2.cell? ⟨w.heap.size + 1, 2, none⟩ = some (.int .i64 0) := HV.out.cell 2
  have c3 : w2.cell? ⟨w.heap.size + 1, 3, none⟩ = some (.int .i64 0) := HV.out.cell 3
  have c4 : w2.cell? ⟨w.heap.size + 1, 4, none⟩ = some (.int .i64 frm) := HV.out.cell 4
  have c5 : w2.cell? ⟨w.heap.size + 1, 5, none⟩ = some (.int .u64 0) := HV.out.cell 5
  replace B := below_on B (below_on (by go_grown) hb)
  clear hb
  go_wp2_with fail
  refine (CA.out _).mono ?_
  rintro e w3 ⟨rfl, hb⟩
  clear c0 c1 c2 c3 c4 c5
  replace B := below_on B (below_on (by go_grown) hb)
  clear hb
  go_wp2_with fail
  refine (CN.out _).mono ?_
  rintro e w4 ⟨rfl, hb⟩
  replace B := below_on B (below_on (by go_grown) hb)
  clear hb
  go_wp2_with fail
  refine (CO.out _).mono ?_
  rintro e w5 ⟨rfl, hb⟩
  replace B := below_on B (below_on (by go_grown) hb)
  clear hb
  go_wp2_with fail
  refine (CP.out _).mono ?_
  rintro e w6 ⟨rfl, hb⟩
  replace B := below_on B (below_on (by go_grown) hb)
  clear hb
  go_wp2_with fail
  refine (CL.out _).mono ?_
  rintro e w7 ⟨rfl, hb⟩
  replace B := below_on B (below_on (by go_grown) hb)
  clear hb
  go_wp2_with fail
  go_returns
  exact ⟨rfl, B⟩

theorem vnear_val_1 (w : World) (sort over frm : Int) (hs : 0 ≤ sort ∧ sort < 256) (ho : -128 ≤ over ∧ over ≤ 127) (hf : -128 ≤ frm ∧ frm ≤ 127) (hq : sort % 4 = 2) (hz : 0 < over) :
    Calls Try.prog 8 #[.int .u8 sort, .int .i8 over, .int .i8 frm] w fun e w' => e = .returned (.bool true) ∧ Below w.heap.size w w' := by
  have CA := hide (fun w => val_any w ⟨5, 0, 0, 0, frm, 0⟩)
  have CM := hide (fun w => val_moved w (.val 0 0 frm) (536870912 - frm + over))
  have CN := hide (fun w => val_moved w (.val 0 0 frm) (-536870912 - frm - over))
  have hv : V22.av ⟨5, 0, 0, 0, frm, 0⟩ = .val 0 0 frm := rfl
  rw [hv] at CA
  rw [moved_not (.val 0 0 frm) frm _ (536870912 + over) rfl rfl (by omega) (by unfold nearB; omega)] at CM
  rw [moved_not (.val 0 0 frm) frm _ (-536870912 - over) rfl rfl (by omega) (by unfold nearB; omega)] at CN
  have CI := hide (fun w => val_law_is w .nil V22.none)
  rw [show decide (AV.plain .nil = V22.none) = true from by decide] at CI
  have CL := hide (fun w => val_alive w)
  clear hv
  simp only [AV.enc, AV.to, AV.isNum, AV.is, AV.at, Option.isSome, Option.getD, V22.agg, V22.none] at CA CM CN CI
  have W0 : IntKind.i64.wrap frm = frm := by rw [IntKind.wrap_i64]; omega
  have W1 : IntKind.i64.wrap over = over := by rw [IntKind.wrap_i64]; omega
  have W2 : IntKind.i64.wrap (536870912 - frm) = 536870912 - frm := by rw [IntKind.wrap_i64]; omega
  have W3 : IntKind.i64.wrap (536870912 - frm + over) = 536870912 - frm + over := by rw [IntKind.wrap_i64]; omega
  have W4 : IntKind.i64.wrap (-536870912 - frm) = -536870912 - frm := by rw [IntKind.wrap_i64]; omega
  have W5 : IntKind.i64.wrap (-536870912 - frm - over) = -536870912 - frm - over := by rw [IntKind.wrap_i64]; omega
  have W6 : IntKind.i64.wrap (536870912 + over) = 536870912 + over := by rw [IntKind.wrap_i64]; omega
  have W7 : IntKind.i64.wrap (-536870912 - over) = -536870912 - over := by rw [IntKind.wrap_i64]; omega
  have D1 : decide (over ≤ 0) = false := by simp; omega
  have D2 : decide (0 < over) = true := by simp; omega
  have B := Below.refl w.heap.size w
  go_enter Try.func8, Try.ntmps8
  go_wp2_with fail
  refine (CA.out _).mono ?_
  rintro e w1 ⟨rfl, hb⟩
  have HV := hide ((Has.last (w.alloc (.cells #[.int .u8 2, .int .u8 3, .int .u8 5, .int .u8 6] 5)) 25 #[.int .u8 5, .int .u64 0, .int .i64 0, .int .i64 0, .int .i64 frm, .int .u64 0] (k := w.heap.size + 1) (by simp)).below hb (by simp))
  replace B := below_on B (below_on (by go_grown) hb)
  clear hb
  go_wp2_with fail
  refine (CM.out _).mono ?_
  rintro e w2 ⟨rfl, hb⟩
  replace HV := hide (HV.out.below hb HV.out.lt)
  have c0 : w2.cell? ⟨w.heap.size + 1, 0, none⟩ = some (.int .u8 5) := HV.out.cell 0
  have c1 : w2.cell? ⟨w.heap.size + 1, 1, none⟩ = some (.int .u64 0) := HV.out.cell 1
  have c2 : w2.cell? ⟨w.heap.size + 1, 2, none⟩ = some (.int .i64 0) := HV.out.cell 2
  have c3 : w2.cell? ⟨w.heap.size + 1, 3, none⟩ = some (.int .i64 0) := HV.out.cell 3
  have c4 : w2.cell? ⟨w.heap.size + 1, 4, none⟩ = some (.int .i64 frm) := HV.out.cell 4
  have c5 : w2.cell? ⟨w.heap.size + 1, 5, none⟩ = some (.int .u64 0) := HV.out.cell 5
  replace B := below_on B (below_on (by go_grown) hb)
  clear hb
  go_wp2_with fail
  refine (CA.out _).mono ?_
  rintro e w3 ⟨rfl, hb⟩
  clear c0 c1 c2 c3 c4 c5
  replace B := below_on B (below_on (by go_grown) hb)
  clear hb
  go_wp2_with fail
  refine (CN.out _).mono ?_
  rintro e w4 ⟨rfl, hb⟩
  replace B := below_on B (below_on (by go_grown) hb)
  clear hb
  go_wp2_with fail
  refine (CI.out _).mono ?_
  rintro e w5 ⟨rfl, hb⟩
  replace B := below_on B (below_on (by go_grown) hb)
  clear hb
  go_wp2_with fail
  refine (CI.out _).mono ?_
  rintro e w6 ⟨rfl, hb⟩
  replace B := below_on B (below_on (by go_grown) hb)
  clear hb
  go_wp2_with fail
  refine (CL.out _).mono ?_
  rintro e w7 ⟨rfl, hb⟩
  replace B := below_on B (below_on (by go_grown) hb)
  clear hb
  go_wp2_with fail
  go_returns
  exact ⟨rfl, B⟩

theorem vnear_obj_0 (w : World) (sort over frm : Int) (hs : 0 ≤ sort ∧ sort < 256) (ho : -128 ≤ over ∧ over ≤ 127) (hf : -128 ≤ frm ∧ frm ≤ 127) (hq : sort % 4 = 3) (hz : over ≤ 0) :
    Calls Try.prog 8 #[.int .u8 sort, .int .i8 over, .int .i8 frm] w fun e w' => e = .returned (.bool true) ∧ Below w.heap.size w w' := by
  have CA := hide (fun w => val_any w ⟨6, 0, 0, 0, frm, 0⟩)
  have CM := hide (fun w => val_moved w (.obj 0 0 frm 0) (536870912 - frm + over))
  have CN := hide (fun w => val_moved w (.obj 0 0 frm 0) (-536870912 - frm - over))
  have hv : V22.av ⟨6, 0, 0, 0, frm, 0⟩ = .obj 0 0 frm 0 := rfl
  rw [hv] at CA
  rw [moved_ok (.obj 0 0 frm 0) frm _ (536870912 + over) rfl rfl (by unfold nearB; omega) (by omega) (by omega) (by unfold nearB; omega)] at CM
  rw [moved_ok (.obj 0 0 frm 0) frm _ (-536870912 - over) rfl rfl (by unfold nearB; omega) (by omega) (by omega) (by unfold nearB; omega)] at CN
  have CO := hide (fun w => val_off w (.obj 0 0 (536870912 + over) 0))
  have CP := hide (fun w => val_off w (.obj 0 0 (-536870912 - over) 0))
  have CL := hide (fun w => val_alive w)
  clear hv
  simp only [AV.enc, AV.to, AV.isNum, AV.is, AV.at, Option.isSome, Option.getD, V22.agg, V22.none] at CA CM CN CO CP
  have W0 : IntKind.i64.wrap frm = frm := by rw [IntKind.wrap_i64]; omega
  have W1 : IntKind.i64.wrap over = over := by rw [IntKind.wrap_i64]; omega
  have W2 : IntKind.i64.wrap (536870912 - frm) = 536870912 - frm := by rw [IntKind.wrap_i64]; omega
  have W3 : IntKind.i64.wrap (536870912 - frm + over) = 536870912 - frm + over := by rw [IntKind.wrap_i64]; omega
  have W4 : IntKind.i64.wrap (-536870912 - frm) = -536870912 - frm := by rw [IntKind.wrap_i64]; omega
  have W5 : IntKind.i64.wrap (-536870912 - frm - over) = -536870912 - frm - over := by rw [IntKind.wrap_i64]; omega
  have W6 : IntKind.i64.wrap (536870912 + over) = 536870912 + over := by rw [IntKind.wrap_i64]; omega
  have W7 : IntKind.i64.wrap (-536870912 - over) = -536870912 - over := by rw [IntKind.wrap_i64]; omega
  have D1 : decide (over ≤ 0) = true := by simp; omega
  have D2 : decide (0 < over) = false := by simp; omega
  have B := Below.refl w.heap.size w
  go_enter Try.func8, Try.ntmps8
  go_wp2_with fail
  refine (CA.out _).mono ?_
  rintro e w1 ⟨rfl, hb⟩
  have HV := hide ((Has.last (w.alloc (.cells #[.int .u8 2, .int .u8 3, .int .u8 5, .int .u8 6] 5)) 25 #[.int .u8 6, .int .u64 0, .int .i64 0, .int .i64 0, .int .i64 frm, .int .u64 0] (k := w.heap.size + 1) (by simp)).below hb (by simp))
  replace B := below_on B (below_on (by go_grown) hb)
  clear hb
  go_wp2_with fail
  refine (CM.out _).mono ?_
  rintro e w2 ⟨rfl, hb⟩
  replace HV := hide (HV.out.below hb HV.out.lt)
  have c0 : w2.cell? ⟨w.heap.size + 1, 0, none⟩ = some (.int .u8 6) := HV.out.cell 0
  have c1 : w2.cell? ⟨w.heap.size + 1, 1, none⟩ = some (.int .u64 0) := HV.out.cell 1
  have c2 : w2.cell? ⟨w.heap.size + 1, 2, none⟩ = some (.int .i64 0) := HV.out.cell 2
  have c3 : w2.cell? ⟨w.heap.size + 1, 3, none⟩ = some (.int .i64 0) := HV.out.cell 3
  have c4 : w2.cell? ⟨w.heap.size + 1, 4, none⟩ = some (.int .i64 frm) := HV.out.cell 4
  have c5 : w2.cell? ⟨w.heap.size + 1, 5, none⟩ = some (.int .u64 0) := HV.out.cell 5
  replace B := below_on B (below_on (by go_grown) hb)
  clear hb
  go_wp2_with fail
  refine (CA.out _).mono ?_
  rintro e w3 ⟨rfl, hb⟩
  clear c0 c1 c2 c3 c4 c5
  replace B := below_on B (below_on (by go_grown) hb)
  clear hb
  go_wp2_with fail
  refine (CN.out _).mono ?_
  rintro e w4 ⟨rfl, hb⟩
  replace B := below_on B (below_on (by go_grown) hb)
  clear hb
  go_wp2_with fail
  refine (CO.out _).mono ?_
  rintro e w5 ⟨rfl, hb⟩
  replace B := below_on B (below_on (by go_grown) hb)
  clear hb
  go_wp2_with fail
  refine (CP.out _).mono ?_
  rintro e w6 ⟨rfl, hb⟩
  replace B := below_on B (below_on (by go_grown) hb)
  clear hb
  go_wp2_with fail
  refine (CL.out _).mono ?_
  rintro e w7 ⟨rfl, hb⟩
  replace B := below_on B (below_on (by go_grown) hb)
  clear hb
  go_wp2_with fail
  go_returns
  exact ⟨rfl, B⟩

theorem vnear_obj_1 (w : World) (sort over frm : Int) (hs : 0 ≤ sort ∧ sort < 256) (ho : -128 ≤ over ∧ over ≤ 127) (hf : -128 ≤ frm ∧ frm ≤ 127) (hq : sort % 4 = 3) (hz : 0 < over) :
    Calls Try.prog 8 #[.int .u8 sort, .int .i8 over, .int .i8 frm] w fun e w' => e = .returned (.bool true) ∧ Below w.heap.size w w' := by
  have CA := hide (fun w => val_any w ⟨6, 0, 0, 0, frm, 0⟩)
  have CM := hide (fun w => val_moved w (.obj 0 0 frm 0) (536870912 - frm + over))
  have CN := hide (fun w => val_moved w (.obj 0 0 frm 0) (-536870912 - frm - over))
  have hv : V22.av ⟨6, 0, 0, 0, frm, 0⟩ = .obj 0 0 frm 0 := rfl
  rw [hv] at CA
  rw [moved_not (.obj 0 0 frm 0) frm _ (536870912 + over) rfl rfl (by omega) (by unfold nearB; omega)] at CM
  rw [moved_not (.obj 0 0 frm 0) frm _ (-536870912 - over) rfl rfl (by omega) (by unfold nearB; omega)] at CN
  have CI := hide (fun w => val_law_is w .nil V22.none)
  rw [show decide (AV.plain .nil = V22.none) = true from by decide] at CI
  have CL := hide (fun w => val_alive w)
  clear hv
  simp only [AV.enc, AV.to, AV.isNum, AV.is, AV.at, Option.isSome, Option.getD, V22.agg, V22.none] at CA CM CN CI
  have W0 : IntKind.i64.wrap frm = frm := by rw [IntKind.wrap_i64]; omega
  have W1 : IntKind.i64.wrap over = over := by rw [IntKind.wrap_i64]; omega
  have W2 : IntKind.i64.wrap (536870912 - frm) = 536870912 - frm := by rw [IntKind.wrap_i64]; omega
  have W3 : IntKind.i64.wrap (536870912 - frm + over) = 536870912 - frm + over := by rw [IntKind.wrap_i64]; omega
  have W4 : IntKind.i64.wrap (-536870912 - frm) = -536870912 - frm := by rw [IntKind.wrap_i64]; omega
  have W5 : IntKind.i64.wrap (-536870912 - frm - over) = -536870912 - frm - over := by rw [IntKind.wrap_i64]; omega
  have W6 : IntKind.i64.wrap (536870912 + over) = 536870912 + over := by rw [IntKind.wrap_i64]; omega
  have W7 : IntKind.i64.wrap (-536870912 - over) = -536870912 - over := by rw [IntKind.wrap_i64]; omega
  have D1 : decide (over ≤ 0) = false := by simp; omega
  have D2 : decide (0 < over) = true := by simp; omega
  have B := Below.refl w.heap.size w
  go_enter Try.func8, Try.ntmps8
  go_wp2_with fail
  refine (CA.out _).mono ?_
  rintro e w1 ⟨rfl, hb⟩
  have HV := hide ((Has.last (w.alloc (.cells #[.int .u8 2, .int .u8 3, .int .u8 5, .int .u8 6] 5)) 25 #[.int .u8 6, .int .u64 0, .int .i64 0, .int .i64 0, .int .i64 frm, .int .u64 0] (k := w.heap.size + 1) (by simp)).below hb (by simp))
  replace B := below_on B (below_on (by go_grown) hb)
  clear hb
  go_wp2_with fail
  refine (CM.out _).mono ?_
  rintro e w2 ⟨rfl, hb⟩
  replace HV := hide (HV.out.below hb HV.out.lt)
  have c0 : w2.cell? ⟨w.heap.size + 1, 0, none⟩ = some (.int .u8 6) := HV.out.cell 0
  have c1 : w2.cell? ⟨w.heap.size + 1, 1, none⟩ = some (.int .u64 0) := HV.out.cell 1
  have c2 : w2.cell? ⟨w.heap.size + 1, 2, none⟩ = some (.int .i64 0) := HV.out.cell 2
  have c3 : w2.cell? ⟨w.heap.size + 1, 3, none⟩ = some (.int .i64 0) := HV.out.cell 3
  have c4 : w2.cell? ⟨w.heap.size + 1, 4, none⟩ = some (.int .i64 frm) := HV.out.cell 4
  have c5 : w2.cell? ⟨w.heap.size + 1, 5, none⟩ = some (.int .u64 0) := HV.out.cell 5
  replace B := below_on B (below_on (by go_grown) hb)
  clear hb
  go_wp2_with fail
  refine (CA.out _).mono ?_
  rintro e w3 ⟨rfl, hb⟩
  clear c0 c1 c2 c3 c4 c5
  replace B := below_on B (below_on (by go_grown) hb)
  clear hb
  go_wp2_with fail
  refine (CN.out _).mono ?_
  rintro e w4 ⟨rfl, hb⟩
  replace B := below_on B (below_on (by go_grown) hb)
  clear hb
  go_wp2_with fail
  refine (CI.out _).mono ?_
  rintro e w5 ⟨rfl, hb⟩
  replace B := below_on B (below_on (by go_grown) hb)
  clear hb
  go_wp2_with fail
  refine (CI.out _).mono ?_
  rintro e w6 ⟨rfl, hb⟩
  replace B := below_on B (below_on (by go_grown) hb)
  clear hb
  go_wp2_with fail
  refine (CL.out _).mono ?_
  rintro e w7 ⟨rfl, hb⟩
  replace B := below_on B (below_on (by go_grown) hb)
  clear hb
  go_wp2_with fail
  go_returns
  exact ⟨rfl, B⟩

theorem vnear_walk (w : World) (sort : Int) (h0 : (Lit.int .u8 sort).wf = true) (over : Int) (h1 : (Lit.int .i8 over).wf = true) (frm : Int) (h2 : (Lit.int .i8 frm).wf = true) :
    Calls Try.prog 8 #[.int .u8 sort, .int .i8 over, .int .i8 frm] w fun e w' => e = .returned (.bool true) ∧ Below w.heap.size w w' := by
  have g0 := wf_u8 h0
  have g1 := wf_i8 h1
  have g2 := wf_i8 h2
  rcases (show sort % 4 = 0 ∨ sort % 4 = 1 ∨ sort % 4 = 2 ∨ sort % 4 = 3 by omega) with hq | hq | hq | hq <;> rcases (show over ≤ 0 ∨ 0 < over by omega) with hz | hz
  · exact vnear_ctx_0 w sort over frm g0 g1 g2 hq hz
  · exact vnear_ctx_1 w sort over frm g0 g1 g2 hq hz
  · exact vnear_fp_0 w sort over frm g0 g1 g2 hq hz
  · exact vnear_fp_1 w sort over frm g0 g1 g2 hq hz
  · exact vnear_val_0 w sort over frm g0 g1 g2 hq hz
  · exact vnear_val_1 w sort over frm g0 g1 g2 hq hz
  · exact vnear_obj_0 w sort over frm g0 g1 g2 hq hz
  · exact vnear_obj_1 w sort over frm g0 g1 g2 hq hz

end Go.Proofs.Ytcddpmiandgkjaa
