import Derived.Test.YtcddpmiandgkjaaStkE
/-! Package stack: no stack; wardenlaw23.alive; the law StackNil. -/
namespace Go.Proofs.Ytcddpmiandgkjaa
open Go.RowKit Go.Maps Go.Lib
set_option maxHeartbeats 2000000
set_option maxRecDepth 100000
set_option linter.unusedSimpArgs false
set_option linter.unusedVariables false

theorem law_num (w : World) (n : Int) : Calls Try.prog 17 #[.int .u64 n] w fun e w' => e = .returned (V22.agg ⟨1, n, 0, 0, 0, 0⟩) ∧ Below w.heap.size w w' := by
  go_enter Try.func17, Try.ntmps17
  go_wp2_with fail
  go_returns
  exact ⟨rfl, by go_grown⟩

theorem law_ctx (w : World) (n : Int) : Calls Try.prog 38 #[.int .i64 n] w fun e w' => e = .returned (V22.agg ⟨2, 0, 0, 0, n, 0⟩) ∧ Below w.heap.size w w' := by
  go_enter Try.func38, Try.ntmps38
  go_wp2_with fail
  go_returns
  exact ⟨rfl, by go_grown⟩

def al1 : Stk := (Stk.new.store (-8) 8 (.num 258)).1
def al2 : Stk := (al1.store (-8) 8 (.ctx 0)).1
def al3 : Stk := (al2.store (-4) 1 (.num 1)).1
theorem al_a : (Stk.new.store (-8) 8 (.num 258)).2 = 0 := by kernel_rfl
theorem al_b : al1.load (-8) 1 = (.num 2, 0) := by kernel_rfl
theorem al_c : (al1.store (-8) 8 (.ctx 0)).2 = 0 := by kernel_rfl
theorem al_d : al2.load (-8) 8 = (.ctx 0, 0) := by kernel_rfl
theorem al_e : al2.load (-8) 4 = (.nil, 221) := by kernel_rfl
theorem al_f : (al2.store (-4) 1 (.num 1)).2 = 0 := by kernel_rfl
theorem al_g : al3.load (-8) 8 = (.nil, 220) := by kernel_rfl
theorem al_h : al3.load (-4) 1 = (.num 1, 0) := by kernel_rfl
theorem al_i : al3.load 0 1 = (.nil, 230) := by kernel_rfl
theorem al_j : al3.bytesAt (-4) 1 = (⟨#[1]⟩, 0) := by kernel_rfl
theorem al_k : al3.store (-8) 4 (.ctx 0) = (al3, 221) := by kernel_rfl
theorem al_l : al3.store (-8) 8 .nil = (al3, 220) := by kernel_rfl
theorem al_m : al3.setAt (-4) = true := by kernel_rfl
theorem al_n : al3.setAt (-3) = false := by kernel_rfl
theorem al_o : al3.spAt (-8) = .nil := by kernel_rfl

/-! No stack. -/
theorem nos_load (w : World) (a n : Int) : Calls Try.prog 15 #[.pointer none, .int .i64 a, .int .i64 n] w fun e w' => e = .returned (.tuple #[.nilIface, .int .i64 1]) ∧ w = w' := by
  go_enter Try.func15, Try.ntmps15
  go_wp2_with fail
  refine (stk_none_nil _).mono ?_
  rintro e w2 ⟨rfl, rfl⟩
  go_wp2_with fail
  go_returns
  exact ⟨rfl, rfl⟩
theorem nos_bytes (w : World) (a n : Int) : Calls Try.prog 21 #[.pointer none, .int .i64 a, .int .i64 n] w fun e w' => e = .returned (.tuple #[.string ⟨#[]⟩, .int .i64 1]) ∧ w = w' := by
  go_enter Try.func21, Try.ntmps21
  go_wp2_with fail
  refine (stk_none_nil _).mono ?_
  rintro e w2 ⟨rfl, rfl⟩
  go_wp2_with fail
  go_returns
  exact ⟨rfl, rfl⟩
theorem nos_store (w : World) (a n x : Int) : Calls Try.prog 12 #[.pointer none, .int .i64 a, .int .i64 n, AV.enc (.num x)] w fun e w' => e = .returned (.int .i64 1) ∧ w = w' := by
  have C0 := hide (val_number w (.num x))
  simp only [AV.isNum] at C0
  generalize AV.enc (.num x) = z at *
  generalize hz : IntKind.i64.wrap (a + 128) = fz
  have HZ := hide hz
  go_enter Try.func12, Try.ntmps12
  go_wp2_with fail
  refine C0.out.mono ?_
  rintro e w1 ⟨rfl, rfl⟩
  go_wp2_with fail
  refine (stk_none_nil _).mono ?_
  rintro e w2 ⟨rfl, rfl⟩
  go_wp2_with fail
  go_ret
  exact ⟨rfl, rfl⟩
theorem nos_set (w : World) (a : Int) : Calls Try.prog 26 #[.pointer none, .int .i64 a] w fun e w' => e = .returned (.bool false) ∧ w = w' := by
  go_enter Try.func26, Try.ntmps26
  go_wp2_with fail
  refine (stk_none_nil _).mono ?_
  rintro e w2 ⟨rfl, rfl⟩
  go_wp2_with fail
  go_ret
  exact ⟨rfl, rfl⟩
theorem nos_spilled (w : World) (a : Int) : Calls Try.prog 27 #[.pointer none, .int .i64 a] w fun e w' => e = .returned .nilIface ∧ w = w' := by
  go_enter Try.func27, Try.ntmps27
  go_wp2_with fail
  refine (stk_none_nil _).mono ?_
  rintro e w2 ⟨rfl, rfl⟩
  go_wp2_with fail
  go_ret
  exact ⟨rfl, rfl⟩
theorem nos_copy (w : World) : Calls Try.prog 23 #[.pointer none] w fun e w' => e = .returned (.pointer none) ∧ w = w' := by
  go_enter Try.func23, Try.ntmps23
  go_wp2_with fail
  refine (stk_none_nil _).mono ?_
  rintro e w2 ⟨rfl, rfl⟩
  go_wp2_with fail
  go_ret
  exact ⟨rfl, rfl⟩

theorem stk_alive (w : World) : Calls Try.prog 10 #[] w fun e w' => e = .returned (.bool true) ∧ Below w.heap.size w w' := by
  have CN := hide (fun w n => law_num w n)
  have CC := hide (fun w n => law_ctx w n)
  have I1 := hide (fun w => val_law_is w (.num 2) ⟨1, 2, 0, 0, 0, 0⟩)
  have I2 := hide (fun w => val_law_is w (.ctx 0) ⟨2, 0, 0, 0, 0, 0⟩)
  have I3 := hide (fun w => val_law_is w (.num 1) ⟨1, 1, 0, 0, 0, 0⟩)
  have I4 := hide (fun w => val_law_is w .nil ⟨0, 0, 0, 0, 0, 0⟩)
  have S1 := hide (fun W p mb (h : StkIs W p mb Stk.new) => stk_store W p mb Stk.new h (-8) 8 (.num 258) ⟨by decide, by decide⟩)
  have S2 := hide (fun W p mb (h : StkIs W p mb al1) => stk_store W p mb al1 h (-8) 8 (.ctx 0) trivial)
  have S3 := hide (fun W p mb (h : StkIs W p mb al2) => stk_store W p mb al2 h (-4) 1 (.num 1) ⟨by decide, by decide⟩)
  have S4 := hide (fun W p mb (h : StkIs W p mb al3) => stk_store W p mb al3 h (-8) 4 (.ctx 0) trivial)
  have S5 := hide (fun W p mb (h : StkIs W p mb al3) => stk_store W p mb al3 h (-8) 8 .nil trivial)
  have L1 := hide (fun W p mb (h : StkIs W p mb al1) => stk_load W p mb al1 h (-8) 1)
  have L2 := hide (fun W p mb (h : StkIs W p mb al2) => stk_load W p mb al2 h (-8) 8)
  have L3 := hide (fun W p mb (h : StkIs W p mb al2) => stk_load W p mb al2 h (-8) 4)
  have L4 := hide (fun W p mb (h : StkIs W p mb al3) => stk_load W p mb al3 h (-8) 8)
  have L5 := hide (fun W p mb (h : StkIs W p mb al3) => stk_load W p mb al3 h (-4) 1)
  have L6 := hide (fun W p mb (h : StkIs W p mb al3) => stk_load W p mb al3 h 0 1)
  have Y1 := hide (fun W p mb (h : StkIs W p mb al3) => stk_bytes W p mb al3 h (-4) 1)
  have E1 := hide (fun W p mb (h : StkIs W p mb al3) => stk_set W p mb al3 h (-4))
  have E2 := hide (fun W p mb (h : StkIs W p mb al3) => stk_set W p mb al3 h (-3))
  have P1 := hide (fun W p mb (h : StkIs W p mb al3) => stk_spilled W p mb al3 h (-8))
  rw [show decide ((AV.num 2).plain = (⟨1, 2, 0, 0, 0, 0⟩ : V22)) = true by decide] at I1
  rw [show decide ((AV.ctx 0).plain = (⟨2, 0, 0, 0, 0, 0⟩ : V22)) = true by decide] at I2
  rw [show decide ((AV.num 1).plain = (⟨1, 1, 0, 0, 0, 0⟩ : V22)) = true by decide] at I3
  rw [show decide (AV.nil.plain = (⟨0, 0, 0, 0, 0, 0⟩ : V22)) = true by decide] at I4
  rw [al_a] at S1
  rw [al_c] at S2
  rw [al_f] at S3
  rw [al_k] at S4
  rw [al_l] at S5
  rw [al_b] at L1
  rw [al_d] at L2
  rw [al_e] at L3
  rw [al_g] at L4
  rw [al_h] at L5
  rw [al_i] at L6
  rw [al_j] at Y1
  rw [al_m] at E1
  rw [al_n] at E2
  rw [al_o] at P1
  simp only [AV.enc, V22.agg] at I1 I2 I3 I4 S1 S2 S3 S4 S5 L1 L2 L3 L4 L5 L6 P1 CN CC
  have B := Below.refl w.heap.size w
  go_enter Try.func10, Try.ntmps10
  go_wp2_with fail
  refine (stk_new _).mono ?_
  rintro e w0 ⟨p, mb, rfl, hs, hp, hmb, hb⟩
  replace B := below_on B hb
  have BP := hide (And.intro hp hmb)
  clear hb hp hmb
  have HS := hide hs
  clear hs
  go_wp2_with fail
  have hg0 := HS.out.below (by go_grown)
  refine (S1.out _ p mb hg0).mono ?_
  rintro e wn ⟨rfl, hs, ht⟩
  replace B := (below_on B (by go_grown)).trans (ht.below (below_on B (by go_grown)).size (fun k hk => by rcases hk with rfl | rfl; exact BP.out.1; exact BP.out.2))
  clear HS ht hg0
  have HS := hide hs
  clear hs
  go_wp2_with fail
  have hg0 := HS.out.below (by go_grown)
  refine (L1.out _ p mb hg0).mono ?_
  rintro e wn ⟨rfl, hb⟩
  replace B := below_on (below_on B (by go_grown)) hb
  have hs := hg0.below hb
  clear HS hb hg0
  have HS := hide hs
  clear hs
  go_wp2_with fail
  have hg0 := HS.out.below (by go_grown)
  refine (S2.out _ p mb hg0).mono ?_
  rintro e wn ⟨rfl, hs, ht⟩
  replace B := (below_on B (by go_grown)).trans (ht.below (below_on B (by go_grown)).size (fun k hk => by rcases hk with rfl | rfl; exact BP.out.1; exact BP.out.2))
  clear HS ht hg0
  have HS := hide hs
  clear hs
  go_wp2_with fail
  have hg0 := HS.out.below (by go_grown)
  refine (L2.out _ p mb hg0).mono ?_
  rintro e wn ⟨rfl, hb⟩
  replace B := below_on (below_on B (by go_grown)) hb
  have hs := hg0.below hb
  clear HS hb hg0
  have HS := hide hs
  clear hs
  go_wp2_with fail
  have hg0 := HS.out.below (by go_grown)
  refine (L3.out _ p mb hg0).mono ?_
  rintro e wn ⟨rfl, hb⟩
  replace B := below_on (below_on B (by go_grown)) hb
  have hs := hg0.below hb
  clear HS hb hg0
  have HS := hide hs
  clear hs
  go_wp2_with fail
  have hg0 := HS.out.below (by go_grown)
  refine (S3.out _ p mb hg0).mono ?_
  rintro e wn ⟨rfl, hs, ht⟩
  replace B := (below_on B (by go_grown)).trans (ht.below (below_on B (by go_grown)).size (fun k hk => by rcases hk with rfl | rfl; exact BP.out.1; exact BP.out.2))
  clear HS ht hg0
  have HS := hide hs
  clear hs
  go_wp2_with fail
  have hg0 := HS.out.below (by go_grown)
  refine (L4.out _ p mb hg0).mono ?_
  rintro e wn ⟨rfl, hb⟩
  replace B := below_on (below_on B (by go_grown)) hb
  have hs := hg0.below hb
  clear HS hb hg0
  have HS := hide hs
  clear hs
  go_wp2_with fail
  have hg0 := HS.out.below (by go_grown)
  refine (L5.out _ p mb hg0).mono ?_
  rintro e wn ⟨rfl, hb⟩
  replace B := below_on (below_on B (by go_grown)) hb
  have hs := hg0.below hb
  clear HS hb hg0
  have HS := hide hs
  clear hs
  go_wp2_with fail
  have hg0 := HS.out.below (by go_grown)
  refine (L6.out _ p mb hg0).mono ?_
  rintro e wn ⟨rfl, hb⟩
  replace B := below_on (below_on B (by go_grown)) hb
  have hs := hg0.below hb
  clear HS hb hg0
  have HS := hide hs
  clear hs
  go_wp2_with fail
  have hg0 := HS.out.below (by go_grown)
  refine (Y1.out _ p mb hg0).mono ?_
  rintro e wn ⟨rfl, hb⟩
  replace B := below_on (below_on B (by go_grown)) hb
  have hs := hg0.below hb
  clear HS hb hg0
  have HS := hide hs
  clear hs
  go_wp2_with fail
  have hg0 := HS.out.below (by go_grown)
  refine (CN.out _ _).mono ?_
  rintro e wn ⟨rfl, hb⟩
  replace B := below_on (below_on B (by go_grown)) hb
  have hs := hg0.below hb
  clear HS hb hg0
  have HS := hide hs
  clear hs
  go_wp2_with fail
  have hg0 := HS.out.below (by go_grown)
  refine (I1.out _).mono ?_
  rintro e wn ⟨rfl, hb⟩
  replace B := below_on (below_on B (by go_grown)) hb
  have hs := hg0.below hb
  clear HS hb hg0
  have HS := hide hs
  clear hs
  go_wp2_with fail
  have hg0 := HS.out.below (by go_grown)
  refine (CC.out _ _).mono ?_
  rintro e wn ⟨rfl, hb⟩
  replace B := below_on (below_on B (by go_grown)) hb
  have hs := hg0.below hb
  clear HS hb hg0
  have HS := hide hs
  clear hs
  go_wp2_with fail
  have hg0 := HS.out.below (by go_grown)
  refine (I2.out _).mono ?_
  rintro e wn ⟨rfl, hb⟩
  replace B := below_on (below_on B (by go_grown)) hb
  have hs := hg0.below hb
  clear HS hb hg0
  have HS := hide hs
  clear hs
  go_wp2_with fail
  have hg0 := HS.out.below (by go_grown)
  refine (CN.out _ _).mono ?_
  rintro e wn ⟨rfl, hb⟩
  replace B := below_on (below_on B (by go_grown)) hb
  have hs := hg0.below hb
  clear HS hb hg0
  have HS := hide hs
  clear hs
  go_wp2_with fail
  have hg0 := HS.out.below (by go_grown)
  refine (I3.out _).mono ?_
  rintro e wn ⟨rfl, hb⟩
  replace B := below_on (below_on B (by go_grown)) hb
  have hs := hg0.below hb
  clear HS hb hg0
  have HS := hide hs
  clear hs
  go_wp2_with fail
  have hg0 := HS.out.below (by go_grown)
  refine (S4.out _ p mb hg0).mono ?_
  rintro e wn ⟨rfl, hs, ht⟩
  replace B := (below_on B (by go_grown)).trans (ht.below (below_on B (by go_grown)).size (fun k hk => by rcases hk with rfl | rfl; exact BP.out.1; exact BP.out.2))
  clear HS ht hg0
  have HS := hide hs
  clear hs
  go_wp2_with fail
  have hg0 := HS.out.below (by go_grown)
  refine (S5.out _ p mb hg0).mono ?_
  rintro e wn ⟨rfl, hs, ht⟩
  replace B := (below_on B (by go_grown)).trans (ht.below (below_on B (by go_grown)).size (fun k hk => by rcases hk with rfl | rfl; exact BP.out.1; exact BP.out.2))
  clear HS ht hg0
  have HS := hide hs
  clear hs
  go_wp2_with fail
  have hg0 := HS.out.below (by go_grown)
  refine (E1.out _ p mb hg0).mono ?_
  rintro e wn ⟨rfl, rfl⟩
  clear hg0
  go_wp2_with fail
  have hg0 := HS.out.below (by go_grown)
  refine (E2.out _ p mb hg0).mono ?_
  rintro e wn ⟨rfl, rfl⟩
  clear hg0
  go_wp2_with fail
  have hg0 := HS.out.below (by go_grown)
  refine (P1.out _ p mb hg0).mono ?_
  rintro e wn ⟨rfl, rfl⟩
  clear hg0
  go_wp2_with fail
  have hg0 := HS.out.below (by go_grown)
  refine (I4.out _).mono ?_
  rintro e wn ⟨rfl, hb⟩
  replace B := below_on (below_on B (by go_grown)) hb
  have hs := hg0.below hb
  clear HS hb hg0
  have HS := hide hs
  clear hs
  go_wp2_with fail
  go_ret
  exact ⟨rfl, B⟩

theorem stack_nil_law (w : World) (a : Int) (ha : (Lit.int .i64 a).wf = true) (n : Int) (hn : (Lit.int .i64 n).wf = true) :
    Calls Try.prog 6 #[.int .i64 a, .int .i64 n] w fun e w' => e = .returned (.bool true) ∧ Below w.heap.size w w' := by
  have I4 := hide (fun w => val_law_is w .nil ⟨0, 0, 0, 0, 0, 0⟩)
  rw [show decide (AV.nil.plain = (⟨0, 0, 0, 0, 0, 0⟩ : V22)) = true by decide] at I4
  have S1 := hide (fun w => nos_store w a n 1)
  simp only [AV.enc, V22.agg] at I4 S1
  have B := Below.refl w.heap.size w
  clear ha hn
  go_enter Try.func6, Try.ntmps6
  go_wp2_with fail
  refine (nos_load _ _ _).mono ?_
  rintro e wn ⟨rfl, rfl⟩
  go_wp2_with fail
  refine (nos_bytes _ _ _).mono ?_
  rintro e wn ⟨rfl, rfl⟩
  go_wp2_with fail
  refine (S1.out _).mono ?_
  rintro e wn ⟨rfl, rfl⟩
  go_wp2_with fail
  refine (nos_set _ _).mono ?_
  rintro e wn ⟨rfl, rfl⟩
  go_wp2_with fail
  refine (nos_spilled _ _).mono ?_
  rintro e wn ⟨rfl, rfl⟩
  go_wp2_with fail
  refine (I4.out _).mono ?_
  rintro e wn ⟨rfl, hb⟩
  replace B := below_on (below_on B (by go_grown)) hb
  clear hb
  go_wp2_with fail
  refine (nos_copy _).mono ?_
  rintro e wn ⟨rfl, rfl⟩
  go_wp2_with fail
  refine (stk_alive _).mono ?_
  rintro e wn ⟨rfl, hb⟩
  replace B := below_on (below_on B (by go_grown)) hb
  clear hb
  go_wp2_with fail
  go_ret
  exact ⟨rfl, B⟩

end Go.Proofs.Ytcddpmiandgkjaa
