import Derived.Test.YtcddpmiandgkjaaVal7
/-! wardenlaw22.alive. -/
namespace Go.Proofs.Ytcddpmiandgkjaa
open Go.RowKit
set_option maxHeartbeats 2000000
set_option maxRecDepth 100000
set_option linter.unusedSimpArgs false

theorem val_alive (w : World) : Calls Try.prog 30 #[] w fun e w' => e = .returned (.bool true) ∧ Below w.heap.size w w' := by
  have C1 := hide (fun w => does_1 w)
  have C2 := hide (fun w => does_2 w)
  have C3 := hide (fun w => asks_1 w)
  have C4 := hide (fun w => does_3 w)
  have C5 := hide (fun w => val_moved w (.fp 0 (-8)) 1099511627776)
  have hm : AV.moved (.fp 0 (-8)) 1099511627776 = (.nil, 222) := by decide
  rw [hm] at C5
  clear hm
  have C6 := hide (fun w => val_number w (.num 7))
  have C7 := hide (fun w => val_number w (.ctx 0))
  have C8 := hide (fun w => val_off w (.val 0 0 16))
  have C9 := hide (fun w => val_law_is w (.ctx 0) ⟨2, 0, 0, 0, 0, 0⟩)
  have hd : decide ((AV.ctx 0).plain = (⟨2, 0, 0, 0, 0, 0⟩ : V22)) = true := by decide
  rw [hd] at C9
  clear hd
  have C10 := hide (fun w => val_must w 9)
  have C11 := hide (fun w => val_panics w ⟨2, 0, 0, 0, 0, 0⟩ (fun n h => by simp [V22.av] at h))
  have C12 := hide (fun w => val_isv w (.fn 0))
  have C13 := hide (fun w => val_isv w .nil)
  have C14 := hide (fun w => val_isv w (.text ⟨#[120]⟩))
  simp only [AV.enc, AV.isNum, AV.is, AV.at, Option.isSome, Option.getD, V22.agg] at C1 C2 C3 C4 C5 C6 C7 C8 C9 C10 C11 C12 C13 C14
  have B := Below.refl w.heap.size w
  go_enter Try.func30, Try.ntmps30
  go_wp2_with fail
  refine (C1.out _).mono ?_
  rintro e w1 ⟨rfl, hb⟩
  replace B := below_on B (below_on (by go_grown) hb)
  clear hb
  go_wp2_with fail
  refine (C2.out _).mono ?_
  rintro e w1 ⟨rfl, hb⟩
  replace B := below_on B (below_on (by go_grown) hb)
  clear hb
  go_wp2_with fail
  refine (C3.out _).mono ?_
  rintro e w1 ⟨rfl, hb⟩
  replace B := below_on B (below_on (by go_grown) hb)
  clear hb
  go_wp2_with fail
  refine (C4.out _).mono ?_
  rintro e w1 ⟨rfl, hb⟩
  replace B := below_on B (below_on (by go_grown) hb)
  clear hb
  go_wp2_with fail
  refine (C5.out _).mono ?_
  rintro e w1 ⟨rfl, hb⟩
  replace B := below_on B (below_on (by go_grown) hb)
  clear hb
  go_wp2_with fail
  refine (C6.out _).mono ?_
  rintro e w1 ⟨rfl, rfl⟩
  go_wp2_with fail
  refine (C7.out _).mono ?_
  rintro e w1 ⟨rfl, rfl⟩
  go_wp2_with fail
  refine (C8.out _).mono ?_
  rintro e w1 ⟨rfl, hb⟩
  replace B := below_on B (below_on (by go_grown) hb)
  clear hb
  go_wp2_with fail
  refine (C9.out _).mono ?_
  rintro e w1 ⟨rfl, hb⟩
  replace B := below_on B (below_on (by go_grown) hb)
  clear hb
  go_wp2_with fail
  refine (C10.out _).mono ?_
  rintro e w1 ⟨rfl, rfl⟩
  go_wp2_with fail
  refine (C11.out _).mono ?_
  rintro e w1 ⟨rfl, hb⟩
  replace B := below_on B (below_on (by go_grown) hb)
  clear hb
  go_wp2_with fail
  refine (C12.out _).mono ?_
  rintro e w1 ⟨rfl, hb⟩
  replace B := below_on B (below_on (by go_grown) hb)
  clear hb
  go_wp2_with fail
  refine (C13.out _).mono ?_
  rintro e w1 ⟨rfl, hb⟩
  replace B := below_on B (below_on (by go_grown) hb)
  clear hb
  go_wp2_with fail
  refine (C14.out _).mono ?_
  rintro e w1 ⟨rfl, hb⟩
  replace B := below_on B (below_on (by go_grown) hb)
  clear hb
  go_wp2_with fail
  go_returns
  exact ⟨rfl, B⟩

end Go.Proofs.Ytcddpmiandgkjaa
