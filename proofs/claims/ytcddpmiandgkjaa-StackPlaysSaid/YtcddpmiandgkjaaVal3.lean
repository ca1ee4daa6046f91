import Derived.Test.YtcddpmiandgkjaaVal2
/-! What package value tells of a value: is it one, a pointer, and are two the same. -/
namespace Go.Proofs.Ytcddpmiandgkjaa
open Go.RowKit
set_option maxHeartbeats 1000000
set_option maxRecDepth 100000

theorem val_pointer (w : World) (v : AV) : Calls Try.prog 36 #[v.enc] w fun e w' => e = .returned (.bool v.at.isSome) ∧ Below w.heap.size w w' := by
  go_enter Try.func36, Try.ntmps36
  go_wp2_with fail
  refine (val_places _ v).mono ?_
  rintro e w1 ⟨b, rfl, _, _, hb⟩
  go_wp2_with fail
  go_returns
  exact ⟨rfl, hb⟩

theorem val_off (w : World) (v : AV) : Calls Try.prog 31 #[v.enc] w fun e w' => e = .returned (.tuple #[.int .i64 (v.at.getD 0), .bool v.at.isSome]) ∧ Below w.heap.size w w' := by
  go_enter Try.func31, Try.ntmps31
  go_wp2_with fail
  refine (val_places _ v).mono ?_
  rintro e w1 ⟨b, rfl, _, _, hb⟩
  go_wp2_with fail
  go_returns
  exact ⟨rfl, hb⟩

/-- Is it a value? -/
def AV.is : AV → Bool
  | .nil => false
  | .text _ => false
  | _ => true

theorem below_on {w W W' : World} (h : Below w.heap.size w W) (hb : Below W.heap.size W W') : Below w.heap.size w W' := h.trans (hb.mono h.size)

theorem val_isv (w : World) (v : AV) : Calls Try.prog 34 #[v.enc] w fun e w' => e = .returned (.bool v.is) ∧ Below w.heap.size w w' := by
  have hp := fun w => val_pointer w v
  have a1 := fun w => as_num v w
  have a4 := fun w => as_map v w
  have a7 := fun w => as_fun v w
  have HP := hide hp
  clear hp
  cases v
  all_goals
    simp only [AV.enc, AV.isNum, AV.isMap, AV.isFun] at a1 a4 a7
    simp only [AV.enc, AV.is]
    go_enter Try.func34, Try.ntmps34
    go_wp2_with fail
    first
      | (go_returns; exact ⟨rfl, by go_grown⟩)
      | (refine (HP.out _).mono ?_; rintro e w1 ⟨rfl, hb⟩; go_wp2_with fail; go_returns; exact ⟨rfl, below_on (by go_grown) hb⟩)

theorem run_eql_iface_any {P : Program} (w : World) {t tx : TypeId} {ms : Array (String × TypeId)} (x y : Value)
    (ht : P.underlying t = some (.interface ms)) (hc : (P.info? tx).map (·.comparable) = some true) :
    (binOp .eql t (.iface tx x) (.iface tx y)).run P w = ((Op.equalIn 9999 tx x y).run P w).andThen fun b w' => .ok (.bool b) w' := by
  cases hi : P.info? tx with
  | none => simp [hi] at hc
  | some i =>
    have hcc : i.comparable = true := by simpa [hi] using hc
    have h : ∀ d : Nat, (Op.equalIn (d + 1) t (.iface tx x) (.iface tx y)).run P w = (Op.equalIn d tx x y).run P w := fun d => by
      simp [Op.equalIn, run_underlying ht, typeInfo, hi, hcc]
    simp only [binOp]
    simp [Op.equal, Op.maxDepth, h 9999]

theorem run_eql_iface_other {P : Program} (w : World) {t tx ty : TypeId} {ms : Array (String × TypeId)} (x y : Value)
    (ht : P.underlying t = some (.interface ms)) (hn : tx ≠ ty) : (binOp .eql t (.iface tx x) (.iface ty y)).run P w = .ok (.bool false) w := by
  have h : ∀ d : Nat, (Op.equalIn (d + 1) t (.iface tx x) (.iface ty y)).run P w = .ok false w := fun d => by
    simp [Op.equalIn, run_underlying ht, hn]
  simp only [binOp]
  simp [Op.equal, Op.maxDepth, h 9999]

theorem eq_iface (w : World) (a b : AV) (ha : a.is = true) (hb : b.is = true) : (binOp .eql 20 a.enc b.enc).run Try.prog w = .ok (.bool (decide (a = b))) w := by
  cases a <;> cases b <;> (first | (cases ha; done) | (cases hb; done) | (rw [AV.enc, AV.enc, run_eql_iface_other w _ _ Try.underlying20 (by decide)]; rfl) | skip)
  all_goals
    simp only [AV.enc]
    rw [run_eql_iface_any w _ _ Try.underlying20 (by kernel_rfl)]
    go_simp
    clear ha hb
    first
      | (rename_i x y; by_cases h : x = y <;> simp [h]; done)
      | (repeat' split) <;> simp [*]

theorem eq_guard (w : World) (a b : AV) (x y : Operand) (ha : a.is = true) (hb : b.is = true) : (eqGuard .eql 20 x y a.enc b.enc).run Try.prog w = .ok () w := by
  cases a <;> cases b <;> (first | (cases ha; done) | (cases hb; done) | rfl)

/-- value.Same. -/
def AV.same (a b : AV) : Bool := if a.is && b.is then decide (a = b) else !a.is && !b.is

theorem val_same (w : World) (a b : AV) : Calls Try.prog 35 #[a.enc, b.enc] w fun e w' => e = .returned (.bool (a.same b)) ∧ Below w.heap.size w w' := by
  unfold AV.same
  have E := hide (fun w h1 h2 => eq_iface w a b h1 h2)
  cases ha : a.is <;> cases hb : b.is
  all_goals
    have PA := hide (fun w => val_isv w a)
    have PB := hide (fun w => val_isv w b)
    rw [ha] at PA
    rw [hb] at PB
    have HA := hide ha
    have HB := hide hb
    clear ha hb
    try have e := fun w => E.out w HA.out HB.out
    try have g := fun w x y => eq_guard w a b x y HA.out HB.out
    clear E
    have B := Below.refl w.heap.size w
    go_enter Try.func35, Try.ntmps35
    iterate 3
      go_wp2_with fail
      try (first
        | ((with_reducible refine (PA.out _).mono ?_); rintro e w1 ⟨rfl, h1⟩; replace B := below_on B h1; clear h1)
        | ((with_reducible refine (PB.out _).mono ?_); rintro e w1 ⟨rfl, h1⟩; replace B := below_on B h1; clear h1))
    go_wp2_with fail
    go_returns
    exact ⟨rfl, B⟩

end Go.Proofs.Ytcddpmiandgkjaa
