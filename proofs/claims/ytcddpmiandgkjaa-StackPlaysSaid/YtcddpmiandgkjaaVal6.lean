import Derived.Test.YtcddpmiandgkjaaVal5
import Derived.Recover
/-! value.Must, and who panics. -/
namespace Go.Proofs.Ytcddpmiandgkjaa
open Go.RowKit
set_option maxHeartbeats 1000000
set_option maxRecDepth 100000

theorem as_not (v : AV) (w : World) (h : ∀ n, v ≠ .num n) : ∃ t a, (Instr.typeAssert v.enc 20 55 false).run Try.prog w = .halt (.panic (.iface t (.pointer (some ⟨w.heap.size, 0, none⟩)))) (w.alloc a) := by
  cases v
  case num n => exact absurd rfl (h n)
  all_goals exact ⟨_, _, rfl⟩

theorem val_must (w : World) (n : Int) : Calls Try.prog 56 #[AV.enc (.num n)] w fun e w' => e = .returned (.int .u64 n) ∧ w = w' := by
  have ta : ∀ w, (Instr.typeAssert (AV.enc (.num n)) 20 55 false).run Try.prog w = .ok (.int .u64 n) w := fun w => by kernel_rfl
  simp only [AV.enc] at ta ⊢
  go_enter Try.func56, Try.ntmps56
  go_wp2_with fail
  go_returns
  exact ⟨rfl, rfl⟩

def MustNot (w : World) (e : Ending) (w' : World) : Prop := ∃ t p, e = .panicked [{ v := .iface t p, recovered := false }] ∧ Below w.heap.size w w'

theorem val_must_not (w : World) (v : AV) (h : ∀ n, v ≠ .num n) : Calls Try.prog 56 #[v.enc] w (MustNot w) := by
  obtain ⟨t, a, ha⟩ := as_not v w h
  clear h
  go_enter Try.func56, Try.ntmps56
  go_wp2_with fail
  exact ⟨rfl, _, _, rfl, by go_grown⟩

theorem catch_panicking (p : Addr) (u : TypeId) (x : Bool) (pv : Value) (older : List PanicEntry) (w : World) (hc : w.cell? p = some (.bool x)) (hz : w.frozen? p = false) :
    CallsD Try.prog 57 #[.pointer (some p)] (.panicking ({ v := .iface u pv, recovered := false } :: older)) w fun e u' w' =>
      e = .returned (.tuple #[]) ∧ u' = .panicking ({ v := .iface u pv, recovered := true } :: older) ∧ w' = w.setCell p (.bool true) := by
  refine callsD_of_wpS Try.func57 rfl fun c₀ cs hu => ?_
  apply wpS_seq
  apply wpS_region
  simp [wpOpsS, go_sem, recoverD, hu, Try.ntmps57, Exit.thenS]
  refine wpS_cond (t := true) (by simp [Act.eval, Array.replicate]) ?_
  simp only [if_true]
  apply wpS_region
  simp [wpOpsS, go_sem, hc, hz, bodyPostS, results, Try.results57]

theorem catch_idle (p : Addr) (w : World) :
    CallsD Try.prog 57 #[.pointer (some p)] .returning w fun e u' w' => e = .returned (.tuple #[]) ∧ u' = .returning ∧ w' = w := by
  refine callsD_of_wpS Try.func57 rfl fun c₀ cs hu => ?_
  apply wpS_seq
  apply wpS_region
  simp [wpOpsS, go_sem, recoverD, hu, Try.ntmps57, Exit.thenS]
  refine wpS_cond (t := false) (by simp [Act.eval, Array.replicate]) ?_
  simp only [Bool.false_eq_true, if_false]
  refine wpS_of_wp (wp_skip ?_)
  cases c₀
  simp_all [bodyPostS, results, Try.results57]

theorem val_panics (w : World) (v : V22) (h : ∀ n, v.av ≠ .num n) : Calls Try.prog 37 #[v.agg] w fun e w' => e = .returned (.bool true) ∧ Below w.heap.size w w' := by
  have hmf : ∀ (fn : Fn) (first cap : Array Value) (w : World), (Instr.makeFunc fn first cap).run Try.prog w = .ok (.func fn first cap) w := fun _ _ _ _ => rfl
  have HA := hide (fun w => val_any w v)
  have HM := hide (fun w => val_must_not w v.av h)
  clear h
  generalize v.av.enc = V at HA HM
  obtain ⟨s, n, x, y, o, g⟩ := v
  unfold V22.agg at HA ⊢
  simp only [] at HA ⊢
  go_enter_defers Try.func37, Try.ntmps37
  go_wp2_with fail
  refine (HA.out _).mono ?_
  rintro e w1 ⟨rfl, hb⟩
  have B1 := hide (below_on (w := w) (by go_grown) hb)
  have H1 := hide ((Has.last (w.alloc (.cells #[.int .u8 s, .int .u64 n, .int .i64 x, .int .i64 y, .int .i64 o, .int .u64 g] 25)) 4 #[.bool false] (k := w.heap.size + 1) (by simp)).below hb (by simp))
  clear hb
  go_wp2_with fail
  refine (HM.out _).mono ?_
  rintro e w2 ⟨t, p, rfl, hb⟩
  have B2 := hide (below_on B1.out hb)
  have H2 := hide (H1.out.below hb H1.out.lt)
  clear hb
  go_wp2_with fail
  refine leaves_cons (f := 57) (args := #[.pointer (some ⟨w.heap.size + 1, 0, none⟩)]) (by simp) (by simp [go_sem]) ?_
  refine (catch_panicking ⟨w.heap.size + 1, 0, none⟩ _ false _ [] _ (H2.out.cell 0) (H2.out.free 0)).mono ?_
  rintro e u' w3 ⟨rfl, rfl, rfl⟩
  have c0 := (H2.out.set 0 (.bool true)).cell 0
  have B3 := hide (B2.out.setCell (p := ⟨w.heap.size + 1, 0, none⟩) (by simp) (.bool true))
  have c1 : (w2.setCell ⟨w.heap.size + 1, 0, none⟩ (.bool true)).cell? ⟨w.heap.size + 1, 0, none⟩ = some (.bool true) := c0
  clear c0
  simp [Leaves, settle, results, Try.results37, go_sem, c1]
  exact B3.out

theorem val_panics_not (w : World) (v : V22) (n : Int) (h : v.av = .num n) : Calls Try.prog 37 #[v.agg] w fun e w' => e = .returned (.bool false) ∧ Below w.heap.size w w' := by
  have hmf : ∀ (fn : Fn) (first cap : Array Value) (w : World), (Instr.makeFunc fn first cap).run Try.prog w = .ok (.func fn first cap) w := fun _ _ _ _ => rfl
  have HA := hide (fun w => val_any w v)
  have HM := hide (fun w => val_must w n)
  rw [h] at HA
  clear h
  generalize AV.enc (.num n) = V at HA HM
  obtain ⟨s, n2, x, y, o, g⟩ := v
  unfold V22.agg at HA ⊢
  simp only [] at HA ⊢
  go_enter_defers Try.func37, Try.ntmps37
  go_wp2_with fail
  refine (HA.out _).mono ?_
  rintro e w1 ⟨rfl, hb⟩
  have B1 := hide (below_on (w := w) (by go_grown) hb)
  have H1 := hide ((Has.last (w.alloc (.cells #[.int .u8 s, .int .u64 n2, .int .i64 x, .int .i64 y, .int .i64 o, .int .u64 g] 25)) 4 #[.bool false] (k := w.heap.size + 1) (by simp)).below hb (by simp))
  clear hb
  go_wp2_with fail
  refine (HM.out _).mono ?_
  rintro e w2 ⟨rfl, rfl⟩
  have c0 : w1.cell? ⟨w.heap.size + 1, 0, none⟩ = some (.bool false) := H1.out.cell 0
  have q0 := H1.out.free 0
  go_wp2_with fail
  have c1 : (w1.setCell ⟨w.heap.size + 1, 0, none⟩ (.bool false)).cell? ⟨w.heap.size + 1, 0, none⟩ = some (.bool false) := (H1.out.set 0 (.bool false)).cell 0
  have B3 := hide (B1.out.setCell (p := ⟨w.heap.size + 1, 0, none⟩) (by simp) (.bool false))
  clear c0 q0
  refine leaves_cons (f := 57) (args := #[.pointer (some ⟨w.heap.size + 1, 0, none⟩)]) (by simp) (by simp [go_sem]) ?_
  refine (catch_idle ⟨w.heap.size + 1, 0, none⟩ _).mono ?_
  rintro e u' w3 ⟨rfl, rfl, rfl⟩
  simp [Leaves, settle, results, Try.results37, go_sem, c1]
  exact B3.out

end Go.Proofs.Ytcddpmiandgkjaa
