import Derived.Test.YtcddpmiandgkjaaVal4
/-! value.Moved. -/
namespace Go.Proofs.Ytcddpmiandgkjaa
open Go.RowKit
set_option maxHeartbeats 1000000
set_option maxRecDepth 100000

/-- Is a place within the bounds? -/
def nearB (o : Int) : Prop := -536870912 ≤ o ∧ o ≤ 536870912
instance (o : Int) : Decidable (nearB o) := by unfold nearB; infer_instance

/-- What is told of a value that is moved. -/
def AV.moved (v : AV) (d : Int) : AV × Int :=
  if v.is then match v.at with
    | none => (.nil, 221)
    | some o => if nearB o ∧ (-1073741824 ≤ d ∧ d ≤ 1073741824) ∧ nearB (o + d) then (v.to (o + d), 0) else (.nil, 222)
  else (.nil, 220)

theorem near_yes (w : World) (o : Int) (h : nearB o) : Calls Try.prog 53 #[.int .i64 o] w fun e w' => e = .returned (.bool true) ∧ w = w' := by
  have := val_near w o
  rw [decide_eq_true (show -536870912 ≤ o ∧ o ≤ 536870912 from h)] at this
  exact this
theorem near_no (w : World) (o : Int) (h : ¬ nearB o) : Calls Try.prog 53 #[.int .i64 o] w fun e w' => e = .returned (.bool false) ∧ w = w' := by
  have := val_near w o
  rw [decide_eq_false (show ¬ (-536870912 ≤ o ∧ o ≤ 536870912) from h)] at this
  exact this

theorem moved_off (v : AV) (w : World) (d : Int) (h : v.at = none) : Calls Try.prog 29 #[v.enc, .int .i64 d] w fun e w' =>
    e = .returned (.tuple #[.nilIface, .int .i64 (if v.is then 221 else 220)]) ∧ Below w.heap.size w w' := by
  have PI := hide (fun w => val_isv w v)
  have PP := hide (fun w => val_places w v)
  cases v
  all_goals (try (cases h; done))
  all_goals
    simp only [AV.at, AV.clo, AV.is, AV.enc, Option.getD, Option.isSome] at PI PP ⊢
    clear h
    go_enter Try.func29, Try.ntmps29
    go_wp2_with fail
    refine (PP.out _).mono ?_
    rintro e w1 ⟨b, rfl, h1, h2, B⟩
    clear h1 h2
    go_wp2_with fail
    refine (PI.out _).mono ?_
    rintro e w2 ⟨rfl, hb⟩
    replace B := below_on B hb
    clear hb
    go_wp2_with fail
    go_returns
    exact ⟨rfl, B⟩

theorem moved_far1_ctx (w : World) (o d : Int) (n1 : ¬ nearB o) :
    Calls Try.prog 29 #[AV.enc (.ctx o), .int .i64 d] w fun e w' => e = .returned (.tuple #[.nilIface, .int .i64 222]) ∧ Below w.heap.size w w' := by
  have PI := hide (fun w => val_isv w (.ctx o))
  have PP := hide (fun w => val_places w (.ctx o))
  simp only [AV.at, AV.clo, AV.is, AV.enc, AV.Boxed, Option.getD, Option.isSome] at PI PP ⊢
  have N1 := hide (fun w => near_no w o n1)
  clear n1
  go_enter Try.func29, Try.ntmps29
  go_wp2_with fail
  refine (PP.out _).mono ?_
  rintro e w1 ⟨b, rfl, h1, h2, B⟩
  have X := hide h2
  have hwb := hide (show w.heap.size ≤ b from h1)
  clear h1 h2
  go_wp2_with fail
  refine (PI.out _).mono ?_
  rintro e w2 ⟨rfl, hb⟩
  replace B := below_on B hb
  have HB := hide hb
  clear hb
  go_wp2_with fail
  refine (N1.out _).mono ?_
  rintro e w3 ⟨rfl, rfl⟩
  go_wp2_with fail
  go_returns
  exact ⟨rfl, B⟩

theorem moved_far2_ctx (w : World) (o d : Int) (n1 : nearB o) (n2 : d < -1073741824) :
    Calls Try.prog 29 #[AV.enc (.ctx o), .int .i64 d] w fun e w' => e = .returned (.tuple #[.nilIface, .int .i64 222]) ∧ Below w.heap.size w w' := by
  have PI := hide (fun w => val_isv w (.ctx o))
  have PP := hide (fun w => val_places w (.ctx o))
  simp only [AV.at, AV.clo, AV.is, AV.enc, AV.Boxed, Option.getD, Option.isSome] at PI PP ⊢
  have N1 := hide (fun w => near_yes w o n1)
  have d2 : decide (d < -1073741824) = true := decide_eq_true n2
  clear n1 n2
  go_enter Try.func29, Try.ntmps29
  go_wp2_with fail
  refine (PP.out _).mono ?_
  rintro e w1 ⟨b, rfl, h1, h2, B⟩
  have X := hide h2
  have hwb := hide (show w.heap.size ≤ b from h1)
  clear h1 h2
  go_wp2_with fail
  refine (PI.out _).mono ?_
  rintro e w2 ⟨rfl, hb⟩
  replace B := below_on B hb
  have HB := hide hb
  clear hb
  go_wp2_with fail
  refine (N1.out _).mono ?_
  rintro e w3 ⟨rfl, rfl⟩
  go_wp2_with fail
  go_returns
  exact ⟨rfl, B⟩

theorem moved_far3_ctx (w : World) (o d : Int) (n1 : nearB o) (n2 : ¬ d < -1073741824) (n3 : 1073741824 < d) :
    Calls Try.prog 29 #[AV.enc (.ctx o), .int .i64 d] w fun e w' => e = .returned (.tuple #[.nilIface, .int .i64 222]) ∧ Below w.heap.size w w' := by
  have PI := hide (fun w => val_isv w (.ctx o))
  have PP := hide (fun w => val_places w (.ctx o))
  simp only [AV.at, AV.clo, AV.is, AV.enc, AV.Boxed, Option.getD, Option.isSome] at PI PP ⊢
  have N1 := hide (fun w => near_yes w o n1)
  have d2 : decide (d < -1073741824) = false := decide_eq_false n2
  have d3 : decide (1073741824 < d) = true := decide_eq_true n3
  clear n1 n2 n3
  go_enter Try.func29, Try.ntmps29
  go_wp2_with fail
  refine (PP.out _).mono ?_
  rintro e w1 ⟨b, rfl, h1, h2, B⟩
  have X := hide h2
  have hwb := hide (show w.heap.size ≤ b from h1)
  clear h1 h2
  go_wp2_with fail
  refine (PI.out _).mono ?_
  rintro e w2 ⟨rfl, hb⟩
  replace B := below_on B hb
  have HB := hide hb
  clear hb
  go_wp2_with fail
  refine (N1.out _).mono ?_
  rintro e w3 ⟨rfl, rfl⟩
  go_wp2_with fail
  go_returns
  exact ⟨rfl, B⟩

theorem moved_far4_ctx (w : World) (o d : Int) (n1 : nearB o) (n2 : ¬ d < -1073741824) (n3 : ¬ 1073741824 < d) (n4 : ¬ nearB (o + d)) :
    Calls Try.prog 29 #[AV.enc (.ctx o), .int .i64 d] w fun e w' => e = .returned (.tuple #[.nilIface, .int .i64 222]) ∧ Below w.heap.size w w' := by
  have PI := hide (fun w => val_isv w (.ctx o))
  have PP := hide (fun w => val_places w (.ctx o))
  simp only [AV.at, AV.clo, AV.is, AV.enc, AV.Boxed, Option.getD, Option.isSome] at PI PP ⊢
  have W1 : IntKind.i64.wrap (o + d) = o + d := by
    obtain ⟨a, b⟩ := n1
    rw [IntKind.wrap_i64]
    omega
  have N1 := hide (fun w => near_yes w o n1)
  have N4 := hide (fun w => near_no w (o + d) n4)
  have d2 : decide (d < -1073741824) = false := decide_eq_false n2
  have d3 : decide (1073741824 < d) = false := decide_eq_false n3
  clear n1 n2 n3 n4
  go_enter Try.func29, Try.ntmps29
  go_wp2_with fail
  refine (PP.out _).mono ?_
  rintro e w1 ⟨b, rfl, h1, h2, B⟩
  have X := hide h2
  have hwb := hide (show w.heap.size ≤ b from h1)
  clear h1 h2
  go_wp2_with fail
  refine (PI.out _).mono ?_
  rintro e w2 ⟨rfl, hb⟩
  replace B := below_on B hb
  have HB := hide hb
  clear hb
  go_wp2_with fail
  refine (N1.out _).mono ?_
  rintro e w3 ⟨rfl, rfl⟩
  go_wp2_with fail
  refine (N4.out _).mono ?_
  rintro e w3 ⟨rfl, rfl⟩
  go_wp2_with fail
  go_returns
  exact ⟨rfl, B⟩

theorem moved_near_ctx (w : World) (o d : Int) (n1 : nearB o) (n2 : ¬ d < -1073741824) (n3 : ¬ 1073741824 < d) (n4 : nearB (o + d)) :
    Calls Try.prog 29 #[AV.enc (.ctx o), .int .i64 d] w fun e w' => e = .returned (.tuple #[AV.enc (.ctx (o + d)), .int .i64 0]) ∧ Below w.heap.size w w' := by
  have PI := hide (fun w => val_isv w (.ctx o))
  have PP := hide (fun w => val_places w (.ctx o))
  simp only [AV.at, AV.clo, AV.is, AV.enc, AV.Boxed, Option.getD, Option.isSome] at PI PP ⊢
  have W1 : IntKind.i64.wrap (o + d) = o + d := by
    obtain ⟨a, b⟩ := n1
    rw [IntKind.wrap_i64]
    omega
  have N1 := hide (fun w => near_yes w o n1)
  have N4 := hide (fun w => near_yes w (o + d) n4)
  have d2 : decide (d < -1073741824) = false := decide_eq_false n2
  have d3 : decide (1073741824 < d) = false := decide_eq_false n3
  clear n1 n2 n3 n4
  go_enter Try.func29, Try.ntmps29
  go_wp2_with fail
  refine (PP.out _).mono ?_
  rintro e w1 ⟨b, rfl, h1, h2, B⟩
  have X := hide h2
  have hwb := hide (show w.heap.size ≤ b from h1)
  clear h1 h2
  go_wp2_with fail
  refine (PI.out _).mono ?_
  rintro e w2 ⟨rfl, hb⟩
  replace B := below_on B hb
  have HB := hide hb
  clear hb
  go_wp2_with fail
  refine (N1.out _).mono ?_
  rintro e w3 ⟨rfl, rfl⟩
  go_wp2_with fail
  refine (N4.out _).mono ?_
  rintro e w3 ⟨rfl, rfl⟩
  go_wp2_with fail
  refine (val_with_ctx _ (o + d)).mono ?_
  rintro e w3 ⟨rfl, hb⟩
  replace B := below_on B hb
  clear hb
  simp only [AV.enc]
  go_wp2_with fail
  go_returns
  exact ⟨rfl, B⟩

theorem moved_far1_fp (w : World) (f o d : Int) (n1 : ¬ nearB o) :
    Calls Try.prog 29 #[AV.enc (.fp f o), .int .i64 d] w fun e w' => e = .returned (.tuple #[.nilIface, .int .i64 222]) ∧ Below w.heap.size w w' := by
  have PI := hide (fun w => val_isv w (.fp f o))
  have PP := hide (fun w => val_places w (.fp f o))
  simp only [AV.at, AV.clo, AV.is, AV.enc, AV.Boxed, Option.getD, Option.isSome] at PI PP ⊢
  have N1 := hide (fun w => near_no w o n1)
  clear n1
  go_enter Try.func29, Try.ntmps29
  go_wp2_with fail
  refine (PP.out _).mono ?_
  rintro e w1 ⟨b, rfl, h1, h2, B⟩
  have X := hide h2
  have hwb := hide (show w.heap.size ≤ b from h1)
  clear h1 h2
  go_wp2_with fail
  refine (PI.out _).mono ?_
  rintro e w2 ⟨rfl, hb⟩
  replace B := below_on B hb
  have HB := hide hb
  clear hb
  go_wp2_with fail
  refine (N1.out _).mono ?_
  rintro e w3 ⟨rfl, rfl⟩
  go_wp2_with fail
  go_returns
  exact ⟨rfl, B⟩

theorem moved_far2_fp (w : World) (f o d : Int) (n1 : nearB o) (n2 : d < -1073741824) :
    Calls Try.prog 29 #[AV.enc (.fp f o), .int .i64 d] w fun e w' => e = .returned (.tuple #[.nilIface, .int .i64 222]) ∧ Below w.heap.size w w' := by
  have PI := hide (fun w => val_isv w (.fp f o))
  have PP := hide (fun w => val_places w (.fp f o))
  simp only [AV.at, AV.clo, AV.is, AV.enc, AV.Boxed, Option.getD, Option.isSome] at PI PP ⊢
  have N1 := hide (fun w => near_yes w o n1)
  have d2 : decide (d < -1073741824) = true := decide_eq_true n2
  clear n1 n2
  go_enter Try.func29, Try.ntmps29
  go_wp2_with fail
  refine (PP.out _).mono ?_
  rintro e w1 ⟨b, rfl, h1, h2, B⟩
  have X := hide h2
  have hwb := hide (show w.heap.size ≤ b from h1)
  clear h1 h2
  go_wp2_with fail
  refine (PI.out _).mono ?_
  rintro e w2 ⟨rfl, hb⟩
  replace B := below_on B hb
  have HB := hide hb
  clear hb
  go_wp2_with fail
  refine (N1.out _).mono ?_
  rintro e w3 ⟨rfl, rfl⟩
  go_wp2_with fail
  go_returns
  exact ⟨rfl, B⟩

theorem moved_far3_fp (w : World) (f o d : Int) (n1 : nearB o) (n2 : ¬ d < -1073741824) (n3 : 1073741824 < d) :
    Calls Try.prog 29 #[AV.enc (.fp f o), .int .i64 d] w fun e w' => e = .returned (.tuple #[.nilIface, .int .i64 222]) ∧ Below w.heap.size w w' := by
  have PI := hide (fun w => val_isv w (.fp f o))
  have PP := hide (fun w => val_places w (.fp f o))
  simp only [AV.at, AV.clo, AV.is, AV.enc, AV.Boxed, Option.getD, Option.isSome] at PI PP ⊢
  have N1 := hide (fun w => near_yes w o n1)
  have d2 : decide (d < -1073741824) = false := decide_eq_false n2
  have d3 : decide (1073741824 < d) = true := decide_eq_true n3
  clear n1 n2 n3
  go_enter Try.func29, Try.ntmps29
  go_wp2_with fail
  refine (PP.out _).mono ?_
  rintro e w1 ⟨b, rfl, h1, h2, B⟩
  have X := hide h2
  have hwb := hide (show w.heap.size ≤ b from h1)
  clear h1 h2
  go_wp2_with fail
  refine (PI.out _).mono ?_
  rintro e w2 ⟨rfl, hb⟩
  replace B := below_on B hb
  have HB := hide hb
  clear hb
  go_wp2_with fail
  refine (N1.out _).mono ?_
  rintro e w3 ⟨rfl, rfl⟩
  go_wp2_with fail
  go_returns
  exact ⟨rfl, B⟩

theorem moved_far4_fp (w : World) (f o d : Int) (n1 : nearB o) (n2 : ¬ d < -1073741824) (n3 : ¬ 1073741824 < d) (n4 : ¬ nearB (o + d)) :
    Calls Try.prog 29 #[AV.enc (.fp f o), .int .i64 d] w fun e w' => e = .returned (.tuple #[.nilIface, .int .i64 222]) ∧ Below w.heap.size w w' := by
  have PI := hide (fun w => val_isv w (.fp f o))
  have PP := hide (fun w => val_places w (.fp f o))
  simp only [AV.at, AV.clo, AV.is, AV.enc, AV.Boxed, Option.getD, Option.isSome] at PI PP ⊢
  have W1 : IntKind.i64.wrap (o + d) = o + d := by
    obtain ⟨a, b⟩ := n1
    rw [IntKind.wrap_i64]
    omega
  have N1 := hide (fun w => near_yes w o n1)
  have N4 := hide (fun w => near_no w (o + d) n4)
  have d2 : decide (d < -1073741824) = false := decide_eq_false n2
  have d3 : decide (1073741824 < d) = false := decide_eq_false n3
  clear n1 n2 n3 n4
  go_enter Try.func29, Try.ntmps29
  go_wp2_with fail
  refine (PP.out _).mono ?_
  rintro e w1 ⟨b, rfl, h1, h2, B⟩
  have X := hide h2
  have hwb := hide (show w.heap.size ≤ b from h1)
  clear h1 h2
  go_wp2_with fail
  refine (PI.out _).mono ?_
  rintro e w2 ⟨rfl, hb⟩
  replace B := below_on B hb
  have HB := hide hb
  clear hb
  go_wp2_with fail
  refine (N1.out _).mono ?_
  rintro e w3 ⟨rfl, rfl⟩
  go_wp2_with fail
  refine (N4.out _).mono ?_
  rintro e w3 ⟨rfl, rfl⟩
  go_wp2_with fail
  go_returns
  exact ⟨rfl, B⟩

theorem moved_near_fp (w : World) (f o d : Int) (n1 : nearB o) (n2 : ¬ d < -1073741824) (n3 : ¬ 1073741824 < d) (n4 : nearB (o + d)) :
    Calls Try.prog 29 #[AV.enc (.fp f o), .int .i64 d] w fun e w' => e = .returned (.tuple #[AV.enc (.fp f (o + d)), .int .i64 0]) ∧ Below w.heap.size w w' := by
  have PI := hide (fun w => val_isv w (.fp f o))
  have PP := hide (fun w => val_places w (.fp f o))
  simp only [AV.at, AV.clo, AV.is, AV.enc, AV.Boxed, Option.getD, Option.isSome] at PI PP ⊢
  have W1 : IntKind.i64.wrap (o + d) = o + d := by
    obtain ⟨a, b⟩ := n1
    rw [IntKind.wrap_i64]
    omega
  have N1 := hide (fun w => near_yes w o n1)
  have N4 := hide (fun w => near_yes w (o + d) n4)
  have d2 : decide (d < -1073741824) = false := decide_eq_false n2
  have d3 : decide (1073741824 < d) = false := decide_eq_false n3
  clear n1 n2 n3 n4
  go_enter Try.func29, Try.ntmps29
  go_wp2_with fail
  refine (PP.out _).mono ?_
  rintro e w1 ⟨b, rfl, h1, h2, B⟩
  have X := hide h2
  have hwb := hide (show w.heap.size ≤ b from h1)
  clear h1 h2
  go_wp2_with fail
  refine (PI.out _).mono ?_
  rintro e w2 ⟨rfl, hb⟩
  replace B := below_on B hb
  have HB := hide hb
  clear hb
  go_wp2_with fail
  refine (N1.out _).mono ?_
  rintro e w3 ⟨rfl, rfl⟩
  go_wp2_with fail
  refine (N4.out _).mono ?_
  rintro e w3 ⟨rfl, rfl⟩
  go_wp2_with fail
  have X2 := X.out.below HB.out X.out.lt
  refine (val_with_fp _ b f o (o + d) X2).mono ?_
  rintro e w3 ⟨rfl, hb⟩
  replace B := B.trans (hb _ hwb.out B.size)
  clear hb
  simp only [AV.enc]
  go_wp2_with fail
  go_returns
  exact ⟨rfl, B⟩

theorem moved_far1_val (w : World) (m s o d : Int) (n1 : ¬ nearB o) :
    Calls Try.prog 29 #[AV.enc (.val m s o), .int .i64 d] w fun e w' => e = .returned (.tuple #[.nilIface, .int .i64 222]) ∧ Below w.heap.size w w' := by
  have PI := hide (fun w => val_isv w (.val m s o))
  have PP := hide (fun w => val_places w (.val m s o))
  simp only [AV.at, AV.clo, AV.is, AV.enc, AV.Boxed, Option.getD, Option.isSome] at PI PP ⊢
  have N1 := hide (fun w => near_no w o n1)
  clear n1
  go_enter Try.func29, Try.ntmps29
  go_wp2_with fail
  refine (PP.out _).mono ?_
  rintro e w1 ⟨b, rfl, h1, h2, B⟩
  have X := hide h2
  have hwb := hide (show w.heap.size ≤ b from h1)
  clear h1 h2
  go_wp2_with fail
  refine (PI.out _).mono ?_
  rintro e w2 ⟨rfl, hb⟩
  replace B := below_on B hb
  have HB := hide hb
  clear hb
  go_wp2_with fail
  refine (N1.out _).mono ?_
  rintro e w3 ⟨rfl, rfl⟩
  go_wp2_with fail
  go_returns
  exact ⟨rfl, B⟩

theorem moved_far2_val (w : World) (m s o d : Int) (n1 : nearB o) (n2 : d < -1073741824) :
    Calls Try.prog 29 #[AV.enc (.val m s o), .int .i64 d] w fun e w' => e = .returned (.tuple #[.nilIface, .int .i64 222]) ∧ Below w.heap.size w w' := by
  have PI := hide (fun w => val_isv w (.val m s o))
  have PP := hide (fun w => val_places w (.val m s o))
  simp only [AV.at, AV.clo, AV.is, AV.enc, AV.Boxed, Option.getD, Option.isSome] at PI PP ⊢
  have N1 := hide (fun w => near_yes w o n1)
  have d2 : decide (d < -1073741824) = true := decide_eq_true n2
  clear n1 n2
  go_enter Try.func29, Try.ntmps29
  go_wp2_with fail
  refine (PP.out _).mono ?_
  rintro e w1 ⟨b, rfl, h1, h2, B⟩
  have X := hide h2
  have hwb := hide (show w.heap.size ≤ b from h1)
  clear h1 h2
  go_wp2_with fail
  refine (PI.out _).mono ?_
  rintro e w2 ⟨rfl, hb⟩
  replace B := below_on B hb
  have HB := hide hb
  clear hb
  go_wp2_with fail
  refine (N1.out _).mono ?_
  rintro e w3 ⟨rfl, rfl⟩
  go_wp2_with fail
  go_returns
  exact ⟨rfl, B⟩

theorem moved_far3_val (w : World) (m s o d : Int) (n1 : nearB o) (n2 : ¬ d < -1073741824) (n3 : 1073741824 < d) :
    Calls Try.prog 29 #[AV.enc (.val m s o), .int .i64 d] w fun e w' => e = .returned (.tuple #[.nilIface, .int .i64 222]) ∧ Below w.heap.size w w' := by
  have PI := hide (fun w => val_isv w (.val m s o))
  have PP := hide (fun w => val_places w (.val m s o))
  simp only [AV.at, AV.clo, AV.is, AV.enc, AV.Boxed, Option.getD, Option.isSome] at PI PP ⊢
  have N1 := hide (fun w => near_yes w o n1)
  have d2 : decide (d < -1073741824) = false := decide_eq_false n2
  have d3 : decide (1073741824 < d) = true := decide_eq_true n3
  clear n1 n2 n3
  go_enter Try.func29, Try.ntmps29
  go_wp2_with fail
  refine (PP.out _).mono ?_
  rintro e w1 ⟨b, rfl, h1, h2, B⟩
  have X := hide h2
  have hwb := hide (show w.heap.size ≤ b from h1)
  clear h1 h2
  go_wp2_with fail
  refine (PI.out _).mono ?_
  rintro e w2 ⟨rfl, hb⟩
  replace B := below_on B hb
  have HB := hide hb
  clear hb
  go_wp2_with fail
  refine (N1.out _).mono ?_
  rintro e w3 ⟨rfl, rfl⟩
  go_wp2_with fail
  go_returns
  exact ⟨rfl, B⟩

theorem moved_far4_val (w : World) (m s o d : Int) (n1 : nearB o) (n2 : ¬ d < -1073741824) (n3 : ¬ 1073741824 < d) (n4 : ¬ nearB (o + d)) :
    Calls Try.prog 29 #[AV.enc (.val m s o), .int .i64 d] w fun e w' => e = .returned (.tuple #[.nilIface, .int .i64 222]) ∧ Below w.heap.size w w' := by
  have PI := hide (fun w => val_isv w (.val m s o))
  have PP := hide (fun w => val_places w (.val m s o))
  simp only [AV.at, AV.clo, AV.is, AV.enc, AV.Boxed, Option.getD, Option.isSome] at PI PP ⊢
  have W1 : IntKind.i64.wrap (o + d) = o + d := by
    obtain ⟨a, b⟩ := n1
    rw [IntKind.wrap_i64]
    omega
  have N1 := hide (fun w => near_yes w o n1)
  have N4 := hide (fun w => near_no w (o + d) n4)
  have d2 : decide (d < -1073741824) = false := decide_eq_false n2
  have d3 : decide (1073741824 < d) = false := decide_eq_false n3
  clear n1 n2 n3 n4
  go_enter Try.func29, Try.ntmps29
  go_wp2_with fail
  refine (PP.out _).mono ?_
  rintro e w1 ⟨b, rfl, h1, h2, B⟩
  have X := hide h2
  have hwb := hide (show w.heap.size ≤ b from h1)
  clear h1 h2
  go_wp2_with fail
  refine (PI.out _).mono ?_
  rintro e w2 ⟨rfl, hb⟩
  replace B := below_on B hb
  have HB := hide hb
  clear hb
  go_wp2_with fail
  refine (N1.out _).mono ?_
  rintro e w3 ⟨rfl, rfl⟩
  go_wp2_with fail
  refine (N4.out _).mono ?_
  rintro e w3 ⟨rfl, rfl⟩
  go_wp2_with fail
  go_returns
  exact ⟨rfl, B⟩

theorem moved_near_val (w : World) (m s o d : Int) (n1 : nearB o) (n2 : ¬ d < -1073741824) (n3 : ¬ 1073741824 < d) (n4 : nearB (o + d)) :
    Calls Try.prog 29 #[AV.enc (.val m s o), .int .i64 d] w fun e w' => e = .returned (.tuple #[AV.enc (.val m s (o + d)), .int .i64 0]) ∧ Below w.heap.size w w' := by
  have PI := hide (fun w => val_isv w (.val m s o))
  have PP := hide (fun w => val_places w (.val m s o))
  simp only [AV.at, AV.clo, AV.is, AV.enc, AV.Boxed, Option.getD, Option.isSome] at PI PP ⊢
  have W1 : IntKind.i64.wrap (o + d) = o + d := by
    obtain ⟨a, b⟩ := n1
    rw [IntKind.wrap_i64]
    omega
  have N1 := hide (fun w => near_yes w o n1)
  have N4 := hide (fun w => near_yes w (o + d) n4)
  have d2 : decide (d < -1073741824) = false := decide_eq_false n2
  have d3 : decide (1073741824 < d) = false := decide_eq_false n3
  clear n1 n2 n3 n4
  go_enter Try.func29, Try.ntmps29
  go_wp2_with fail
  refine (PP.out _).mono ?_
  rintro e w1 ⟨b, rfl, h1, h2, B⟩
  have X := hide h2
  have hwb := hide (show w.heap.size ≤ b from h1)
  clear h1 h2
  go_wp2_with fail
  refine (PI.out _).mono ?_
  rintro e w2 ⟨rfl, hb⟩
  replace B := below_on B hb
  have HB := hide hb
  clear hb
  go_wp2_with fail
  refine (N1.out _).mono ?_
  rintro e w3 ⟨rfl, rfl⟩
  go_wp2_with fail
  refine (N4.out _).mono ?_
  rintro e w3 ⟨rfl, rfl⟩
  go_wp2_with fail
  have X2 := X.out.below HB.out X.out.lt
  refine (val_with_val _ b m s o (o + d) X2).mono ?_
  rintro e w3 ⟨rfl, hb⟩
  replace B := B.trans (hb _ hwb.out B.size)
  clear hb
  simp only [AV.enc]
  go_wp2_with fail
  go_returns
  exact ⟨rfl, B⟩

theorem moved_far1_obj (w : World) (s g r o d : Int) (n1 : ¬ nearB o) :
    Calls Try.prog 29 #[AV.enc (.obj s g o r), .int .i64 d] w fun e w' => e = .returned (.tuple #[.nilIface, .int .i64 222]) ∧ Below w.heap.size w w' := by
  have PI := hide (fun w => val_isv w (.obj s g o r))
  have PP := hide (fun w => val_places w (.obj s g o r))
  simp only [AV.at, AV.clo, AV.is, AV.enc, AV.Boxed, Option.getD, Option.isSome] at PI PP ⊢
  have N1 := hide (fun w => near_no w o n1)
  clear n1
  go_enter Try.func29, Try.ntmps29
  go_wp2_with fail
  refine (PP.out _).mono ?_
  rintro e w1 ⟨b, rfl, h1, h2, B⟩
  have X := hide h2
  have hwb := hide (show w.heap.size ≤ b from h1)
  clear h1 h2
  go_wp2_with fail
  refine (PI.out _).mono ?_
  rintro e w2 ⟨rfl, hb⟩
  replace B := below_on B hb
  have HB := hide hb
  clear hb
  go_wp2_with fail
  refine (N1.out _).mono ?_
  rintro e w3 ⟨rfl, rfl⟩
  go_wp2_with fail
  go_returns
  exact ⟨rfl, B⟩

theorem moved_far2_obj (w : World) (s g r o d : Int) (n1 : nearB o) (n2 : d < -1073741824) :
    Calls Try.prog 29 #[AV.enc (.obj s g o r), .int .i64 d] w fun e w' => e = .returned (.tuple #[.nilIface, .int .i64 222]) ∧ Below w.heap.size w w' := by
  have PI := hide (fun w => val_isv w (.obj s g o r))
  have PP := hide (fun w => val_places w (.obj s g o r))
  simp only [AV.at, AV.clo, AV.is, AV.enc, AV.Boxed, Option.getD, Option.isSome] at PI PP ⊢
  have N1 := hide (fun w => near_yes w o n1)
  have d2 : decide (d < -1073741824) = true := decide_eq_true n2
  clear n1 n2
  go_enter Try.func29, Try.ntmps29
  go_wp2_with fail
  refine (PP.out _).mono ?_
  rintro e w1 ⟨b, rfl, h1, h2, B⟩
  have X := hide h2
  have hwb := hide (show w.heap.size ≤ b from h1)
  clear h1 h2
  go_wp2_with fail
  refine (PI.out _).mono ?_
  rintro e w2 ⟨rfl, hb⟩
  replace B := below_on B hb
  have HB := hide hb
  clear hb
  go_wp2_with fail
  refine (N1.out _).mono ?_
  rintro e w3 ⟨rfl, rfl⟩
  go_wp2_with fail
  go_returns
  exact ⟨rfl, B⟩

theorem moved_far3_obj (w : World) (s g r o d : Int) (n1 : nearB o) (n2 : ¬ d < -1073741824) (n3 : 1073741824 < d) :
    Calls Try.prog 29 #[AV.enc (.obj s g o r), .int .i64 d] w fun e w' => e = .returned (.tuple #[.nilIface, .int .i64 222]) ∧ Below w.heap.size w w' := by
  have PI := hide (fun w => val_isv w (.obj s g o r))
  have PP := hide (fun w => val_places w (.obj s g o r))
  simp only [AV.at, AV.clo, AV.is, AV.enc, AV.Boxed, Option.getD, Option.isSome] at PI PP ⊢
  have N1 := hide (fun w => near_yes w o n1)
  have d2 : decide (d < -1073741824) = false := decide_eq_false n2
  have d3 : decide (1073741824 < d) = true := decide_eq_true n3
  clear n1 n2 n3
  go_enter Try.func29, Try.ntmps29
  go_wp2_with fail
  refine (PP.out _).mono ?_
  rintro e w1 ⟨b, rfl, h1, h2, B⟩
  have X := hide h2
  have hwb := hide (show w.heap.size ≤ b from h1)
  clear h1 h2
  go_wp2_with fail
  refine (PI.out _).mono ?_
  rintro e w2 ⟨rfl, hb⟩
  replace B := below_on B hb
  have HB := hide hb
  clear hb
  go_wp2_with fail
  refine (N1.out _).mono ?_
  rintro e w3 ⟨rfl, rfl⟩
  go_wp2_with fail
  go_returns
  exact ⟨rfl, B⟩

theorem moved_far4_obj (w : World) (s g r o d : Int) (n1 : nearB o) (n2 : ¬ d < -1073741824) (n3 : ¬ 1073741824 < d) (n4 : ¬ nearB (o + d)) :
    Calls Try.prog 29 #[AV.enc (.obj s g o r), .int .i64 d] w fun e w' => e = .returned (.tuple #[.nilIface, .int .i64 222]) ∧ Below w.heap.size w w' := by
  have PI := hide (fun w => val_isv w (.obj s g o r))
  have PP := hide (fun w => val_places w (.obj s g o r))
  simp only [AV.at, AV.clo, AV.is, AV.enc, AV.Boxed, Option.getD, Option.isSome] at PI PP ⊢
  have W1 : IntKind.i64.wrap (o + d) = o + d := by
    obtain ⟨a, b⟩ := n1
    rw [IntKind.wrap_i64]
    omega
  have N1 := hide (fun w => near_yes w o n1)
  have N4 := hide (fun w => near_no w (o + d) n4)
  have d2 : decide (d < -1073741824) = false := decide_eq_false n2
  have d3 : decide (1073741824 < d) = false := decide_eq_false n3
  clear n1 n2 n3 n4
  go_enter Try.func29, Try.ntmps29
  go_wp2_with fail
  refine (PP.out _).mono ?_
  rintro e w1 ⟨b, rfl, h1, h2, B⟩
  have X := hide h2
  have hwb := hide (show w.heap.size ≤ b from h1)
  clear h1 h2
  go_wp2_with fail
  refine (PI.out _).mono ?_
  rintro e w2 ⟨rfl, hb⟩
  replace B := below_on B hb
  have HB := hide hb
  clear hb
  go_wp2_with fail
  refine (N1.out _).mono ?_
  rintro e w3 ⟨rfl, rfl⟩
  go_wp2_with fail
  refine (N4.out _).mono ?_
  rintro e w3 ⟨rfl, rfl⟩
  go_wp2_with fail
  go_returns
  exact ⟨rfl, B⟩

theorem moved_near_obj (w : World) (s g r o d : Int) (n1 : nearB o) (n2 : ¬ d < -1073741824) (n3 : ¬ 1073741824 < d) (n4 : nearB (o + d)) :
    Calls Try.prog 29 #[AV.enc (.obj s g o r), .int .i64 d] w fun e w' => e = .returned (.tuple #[AV.enc (.obj s g (o + d) r), .int .i64 0]) ∧ Below w.heap.size w w' := by
  have PI := hide (fun w => val_isv w (.obj s g o r))
  have PP := hide (fun w => val_places w (.obj s g o r))
  simp only [AV.at, AV.clo, AV.is, AV.enc, AV.Boxed, Option.getD, Option.isSome] at PI PP ⊢
  have W1 : IntKind.i64.wrap (o + d) = o + d := by
    obtain ⟨a, b⟩ := n1
    rw [IntKind.wrap_i64]
    omega
  have N1 := hide (fun w => near_yes w o n1)
  have N4 := hide (fun w => near_yes w (o + d) n4)
  have d2 : decide (d < -1073741824) = false := decide_eq_false n2
  have d3 : decide (1073741824 < d) = false := decide_eq_false n3
  clear n1 n2 n3 n4
  go_enter Try.func29, Try.ntmps29
  go_wp2_with fail
  refine (PP.out _).mono ?_
  rintro e w1 ⟨b, rfl, h1, h2, B⟩
  have X := hide h2
  have hwb := hide (show w.heap.size ≤ b from h1)
  clear h1 h2
  go_wp2_with fail
  refine (PI.out _).mono ?_
  rintro e w2 ⟨rfl, hb⟩
  replace B := below_on B hb
  have HB := hide hb
  clear hb
  go_wp2_with fail
  refine (N1.out _).mono ?_
  rintro e w3 ⟨rfl, rfl⟩
  go_wp2_with fail
  refine (N4.out _).mono ?_
  rintro e w3 ⟨rfl, rfl⟩
  go_wp2_with fail
  have X2 := X.out.below HB.out X.out.lt
  refine (val_with_obj _ b s g o r (o + d) X2).mono ?_
  rintro e w3 ⟨rfl, hb⟩
  replace B := B.trans (hb _ hwb.out B.size)
  clear hb
  simp only [AV.enc]
  go_wp2_with fail
  go_returns
  exact ⟨rfl, B⟩

theorem val_moved (w : World) (v : AV) (d : Int) : Calls Try.prog 29 #[v.enc, .int .i64 d] w fun e w' =>
    e = .returned (.tuple #[(v.moved d).1.enc, .int .i64 (v.moved d).2]) ∧ Below w.heap.size w w' := by
  cases v with
  | nil => exact moved_off _ w d rfl
  | text t => exact moved_off _ w d rfl
  | num n => exact moved_off _ w d rfl
  | map i => exact moved_off _ w d rfl
  | fn a => exact moved_off _ w d rfl
  | ctx o =>
    have e1 : AV.moved (.ctx o : AV) d = if nearB o ∧ (-1073741824 ≤ d ∧ d ≤ 1073741824) ∧ nearB (o + d) then (AV.ctx (o + d), 0) else (.nil, 222) := rfl
    by_cases n1 : nearB o
    · by_cases n2 : d < -1073741824
      · rw [e1, if_neg (by omega)]; exact moved_far2_ctx w o d n1 n2
      · by_cases n3 : 1073741824 < d
        · rw [e1, if_neg (by omega)]; exact moved_far3_ctx w o d n1 n2 n3
        · by_cases n4 : nearB (o + d)
          · rw [e1, if_pos ⟨n1, ⟨by omega, by omega⟩, n4⟩]; exact moved_near_ctx w o d n1 n2 n3 n4
          · rw [e1, if_neg (fun h => n4 h.2.2)]; exact moved_far4_ctx w o d n1 n2 n3 n4
    · rw [e1, if_neg (fun h => n1 h.1)]; exact moved_far1_ctx w o d n1
  | fp f o =>
    have e1 : AV.moved (.fp f o : AV) d = if nearB o ∧ (-1073741824 ≤ d ∧ d ≤ 1073741824) ∧ nearB (o + d) then (AV.fp f (o + d), 0) else (.nil, 222) := rfl
    by_cases n1 : nearB o
    · by_cases n2 : d < -1073741824
      · rw [e1, if_neg (by omega)]; exact moved_far2_fp w f o d n1 n2
      · by_cases n3 : 1073741824 < d
        · rw [e1, if_neg (by omega)]; exact moved_far3_fp w f o d n1 n2 n3
        · by_cases n4 : nearB (o + d)
          · rw [e1, if_pos ⟨n1, ⟨by omega, by omega⟩, n4⟩]; exact moved_near_fp w f o d n1 n2 n3 n4
          · rw [e1, if_neg (fun h => n4 h.2.2)]; exact moved_far4_fp w f o d n1 n2 n3 n4
    · rw [e1, if_neg (fun h => n1 h.1)]; exact moved_far1_fp w f o d n1
  | val m s o =>
    have e1 : AV.moved (.val m s o : AV) d = if nearB o ∧ (-1073741824 ≤ d ∧ d ≤ 1073741824) ∧ nearB (o + d) then (AV.val m s (o + d), 0) else (.nil, 222) := rfl
    by_cases n1 : nearB o
    · by_cases n2 : d < -1073741824
      · rw [e1, if_neg (by omega)]; exact moved_far2_val w m s o d n1 n2
      · by_cases n3 : 1073741824 < d
        · rw [e1, if_neg (by omega)]; exact moved_far3_val w m s o d n1 n2 n3
        · by_cases n4 : nearB (o + d)
          · rw [e1, if_pos ⟨n1, ⟨by omega, by omega⟩, n4⟩]; exact moved_near_val w m s o d n1 n2 n3 n4
          · rw [e1, if_neg (fun h => n4 h.2.2)]; exact moved_far4_val w m s o d n1 n2 n3 n4
    · rw [e1, if_neg (fun h => n1 h.1)]; exact moved_far1_val w m s o d n1
  | obj s g o r =>
    have e1 : AV.moved (.obj s g o r : AV) d = if nearB o ∧ (-1073741824 ≤ d ∧ d ≤ 1073741824) ∧ nearB (o + d) then (AV.obj s g (o + d) r, 0) else (.nil, 222) := rfl
    by_cases n1 : nearB o
    · by_cases n2 : d < -1073741824
      · rw [e1, if_neg (by omega)]; exact moved_far2_obj w s g r o d n1 n2
      · by_cases n3 : 1073741824 < d
        · rw [e1, if_neg (by omega)]; exact moved_far3_obj w s g r o d n1 n2 n3
        · by_cases n4 : nearB (o + d)
          · rw [e1, if_pos ⟨n1, ⟨by omega, by omega⟩, n4⟩]; exact moved_near_obj w s g r o d n1 n2 n3 n4
          · rw [e1, if_neg (fun h => n4 h.2.2)]; exact moved_far4_obj w s g r o d n1 n2 n3 n4
    · rw [e1, if_neg (fun h => n1 h.1)]; exact moved_far1_obj w s g r o d n1

end Go.Proofs.Ytcddpmiandgkjaa
