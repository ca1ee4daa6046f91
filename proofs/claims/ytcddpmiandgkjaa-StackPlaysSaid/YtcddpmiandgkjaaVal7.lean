import Derived.Test.YtcddpmiandgkjaaVal6
import Derived.Test.YtcddpmiandgkjaaAluAsks
/-! value.Does and value.Asks at the values that 'alive' asks. -/
namespace Go.Proofs.Ytcddpmiandgkjaa
open Go.RowKit
set_option maxHeartbeats 1000000
set_option maxRecDepth 100000
set_option linter.unusedSimpArgs false

theorem moves_1 (w : World) : Calls Try.prog 65 #[.int .u8 0, AV.enc (.ctx 8), AV.enc (.num 18446744073709551608)] w fun e w' => e = .returned (.tuple #[AV.enc (.ctx 0), .int .i64 0]) ∧ Below w.heap.size w w' := by
  have PA := hide (fun w => val_pointer w (.ctx 8))
  have MA := hide (fun w => val_moved w (.ctx 8) (-8))
  have hm : AV.moved (.ctx 8) (-8) = (.ctx 0, 0) := by decide
  rw [hm] at MA
  clear hm
  have W : wrap64 18446744073709551608 = -8 := by unfold wrap64; decide
  have t1 := fun w => as_num (.ctx 8) w
  have t2 := fun w => as_num (.num 18446744073709551608) w
  simp only [AV.enc, AV.isNum, AV.is, AV.at, Option.isSome] at PA MA t1 t2 ⊢
  have B := Below.refl w.heap.size w
  go_enter Try.func65, Try.ntmps65
  go_wp2_with fail
  refine (PA.out _).mono ?_
  rintro e w1 ⟨rfl, hb⟩
  replace B := below_on B hb
  clear hb
  go_wp2_with fail
  refine (MA.out _).mono ?_
  rintro e w1 ⟨rfl, hb⟩
  replace B := below_on B hb
  clear hb
  go_wp2_with fail
  go_returns
  exact ⟨rfl, B⟩

theorem does_1 (w : World) : Calls Try.prog 54 #[.int .u8 0, .bool true, AV.enc (.ctx 8), AV.enc (.num 18446744073709551608)] w fun e w' => e = .returned (.tuple #[AV.enc (.ctx 0), .int .i64 0]) ∧ Below w.heap.size w w' := by
  have NA := hide (fun w => val_number w (.ctx 8))
  have NB := hide (fun w => val_number w (.num 18446744073709551608))
  have IA := hide (fun w => val_isv w (.ctx 8))
  have IB := hide (fun w => val_isv w (.num 18446744073709551608))
  have PA := hide (fun w => val_pointer w (.ctx 8))
  have DD := hide (fun w => alu_does w 0 0 18446744073709551608 true (by decide) (by decide) (by decide) (by decide) (by unfold u8Ok; decide))
  have hd : aluDoes 0 true 0 18446744073709551608 = (18446744073709551608, 0) := by kernel_rfl
  rw [hd] at DD
  clear hd
  simp only [AV.enc, AV.isNum, AV.is, AV.at, Option.isSome] at NA NB IA IB PA DD ⊢
  have B := Below.refl w.heap.size w
  go_enter Try.func54, Try.ntmps54
  go_wp2_with fail
  refine (NA.out _).mono ?_
  rintro e w1 ⟨rfl, rfl⟩
  go_wp2_with fail
  refine (NB.out _).mono ?_
  rintro e w1 ⟨rfl, rfl⟩
  go_wp2_with fail
  refine (DD.out _).mono ?_
  rintro e w1 ⟨rfl, hb⟩
  replace B := below_on B hb
  clear hb
  go_wp2_with fail
  refine (IB.out _).mono ?_
  rintro e w1 ⟨rfl, hb⟩
  replace B := below_on B hb
  clear hb
  go_wp2_with fail
  refine (IA.out _).mono ?_
  rintro e w1 ⟨rfl, hb⟩
  replace B := below_on B hb
  clear hb
  go_wp2_with fail
  have MM := moves_1 w1
  simp only [AV.enc] at MM
  refine MM.mono ?_
  rintro e w2 ⟨rfl, hb⟩
  replace B := below_on B hb
  clear hb
  go_wp2_with fail
  go_returns
  exact ⟨rfl, B⟩

theorem does_2 (w : World) : Calls Try.prog 54 #[.int .u8 0, .bool false, AV.enc (.ctx 8), AV.enc (.num 1)] w fun e w' => e = .returned (.tuple #[.nilIface, .int .i64 221]) ∧ Below w.heap.size w w' := by
  have NA := hide (fun w => val_number w (.ctx 8))
  have NB := hide (fun w => val_number w (.num 1))
  have IA := hide (fun w => val_isv w (.ctx 8))
  have IB := hide (fun w => val_isv w (.num 1))
  have PA := hide (fun w => val_pointer w (.ctx 8))
  have DD := hide (fun w => alu_does w 0 0 1 false (by decide) (by decide) (by decide) (by decide) (by unfold u8Ok; decide))
  have hd : aluDoes 0 false 0 1 = (1, 0) := by kernel_rfl
  rw [hd] at DD
  clear hd
  simp only [AV.enc, AV.isNum, AV.is, AV.at, Option.isSome] at NA NB IA IB PA DD ⊢
  have B := Below.refl w.heap.size w
  go_enter Try.func54, Try.ntmps54
  go_wp2_with fail
  refine (NA.out _).mono ?_
  rintro e w1 ⟨rfl, rfl⟩
  go_wp2_with fail
  refine (NB.out _).mono ?_
  rintro e w1 ⟨rfl, rfl⟩
  go_wp2_with fail
  refine (DD.out _).mono ?_
  rintro e w1 ⟨rfl, hb⟩
  replace B := below_on B hb
  clear hb
  go_wp2_with fail
  refine (IB.out _).mono ?_
  rintro e w1 ⟨rfl, hb⟩
  replace B := below_on B hb
  clear hb
  go_wp2_with fail
  refine (IA.out _).mono ?_
  rintro e w1 ⟨rfl, hb⟩
  replace B := below_on B hb
  clear hb
  go_wp2_with fail
  go_returns
  exact ⟨rfl, B⟩

theorem does_3 (w : World) : Calls Try.prog 54 #[.int .u8 0, .bool true, AV.enc (.nil), AV.enc (.num 1)] w fun e w' => e = .returned (.tuple #[.nilIface, .int .i64 220]) ∧ Below w.heap.size w w' := by
  have NA := hide (fun w => val_number w (.nil))
  have NB := hide (fun w => val_number w (.num 1))
  have IA := hide (fun w => val_isv w (.nil))
  have IB := hide (fun w => val_isv w (.num 1))
  have PA := hide (fun w => val_pointer w (.nil))
  have DD := hide (fun w => alu_does w 0 0 1 true (by decide) (by decide) (by decide) (by decide) (by unfold u8Ok; decide))
  have hd : aluDoes 0 true 0 1 = (1, 0) := by kernel_rfl
  rw [hd] at DD
  clear hd
  simp only [AV.enc, AV.isNum, AV.is, AV.at, Option.isSome] at NA NB IA IB PA DD ⊢
  have B := Below.refl w.heap.size w
  go_enter Try.func54, Try.ntmps54
  go_wp2_with fail
  refine (NA.out _).mono ?_
  rintro e w1 ⟨rfl, rfl⟩
  go_wp2_with fail
  refine (NB.out _).mono ?_
  rintro e w1 ⟨rfl, rfl⟩
  go_wp2_with fail
  refine (DD.out _).mono ?_
  rintro e w1 ⟨rfl, hb⟩
  replace B := below_on B hb
  clear hb
  go_wp2_with fail
  refine (IB.out _).mono ?_
  rintro e w1 ⟨rfl, hb⟩
  replace B := below_on B hb
  clear hb
  go_wp2_with fail
  refine (IA.out _).mono ?_
  rintro e w1 ⟨rfl, hb⟩
  replace B := below_on B hb
  clear hb
  go_wp2_with fail
  go_returns
  exact ⟨rfl, B⟩

theorem asks_1 (w : World) : Calls Try.prog 55 #[.int .u8 5, .bool true, AV.enc (.obj 0 0 0 1), AV.enc (.num 0)] w fun e w' => e = .returned (.tuple #[.bool true, .int .i64 0]) ∧ Below w.heap.size w w' := by
  have NA := hide (fun w => val_number w (.obj 0 0 0 1))
  have NB := hide (fun w => val_number w (.num 0))
  have IA := hide (fun w => val_isv w (.obj 0 0 0 1))
  have IB := hide (fun w => val_isv w (.num 0))
  have PA := hide (fun w => val_pointer w (.obj 0 0 0 1))
  have DD := hide (fun w => alu_asks w 5 0 0 true (by decide) (by decide) (by decide) (by decide))
  have hd : aluAsks 5 true 0 0 = (false, 0) := by kernel_rfl
  rw [hd] at DD
  clear hd
  simp only [AV.enc, AV.isNum, AV.is, AV.at, Option.isSome] at NA NB IA IB PA DD ⊢
  have B := Below.refl w.heap.size w
  go_enter Try.func55, Try.ntmps55
  go_wp2_with fail
  refine (NA.out _).mono ?_
  rintro e w1 ⟨rfl, rfl⟩
  go_wp2_with fail
  refine (NB.out _).mono ?_
  rintro e w1 ⟨rfl, rfl⟩
  go_wp2_with fail
  refine (DD.out _).mono ?_
  rintro e w1 ⟨rfl, hb⟩
  replace B := below_on B hb
  clear hb
  go_wp2_with fail
  refine (IA.out _).mono ?_
  rintro e w1 ⟨rfl, hb⟩
  replace B := below_on B hb
  clear hb
  go_wp2_with fail
  refine (IB.out _).mono ?_
  rintro e w1 ⟨rfl, hb⟩
  replace B := below_on B hb
  clear hb
  go_wp2_with fail
  refine (PA.out _).mono ?_
  rintro e w1 ⟨rfl, hb⟩
  replace B := below_on B hb
  clear hb
  go_wp2_with fail
  go_returns
  exact ⟨rfl, B⟩

end Go.Proofs.Ytcddpmiandgkjaa
