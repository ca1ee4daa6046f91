/- Written by a program of this session (printh.py), by the print of the kit over contracts of this session: what the calls that a law reaches answer, and the row of the law out of its plain statement. Not trusted: Lean checks it. -/
import Derived.Test.YtdlgipoaimgbpaaHAluAsksx0
import Derived.Test.YtdlgipoaimgbpaaHAluAsksx1
namespace Go.Proofs.Ytdlgipoaimgbpaa.HAluAsks
open Go.RowKit Go.Proofs.YtdlgipoaimgbpaaW.PrintWords Go.Proofs.YtdlgipoaimgbpaaW.PrintLast Go.Proofs.YtdlgipoaimgbpaaW.PrintMore
attribute [local go_sem] max2_int min2_int max_two min_two max_three min_three max_four min_four   -- for this text's walks alone
set_option linter.unusedVariables false
set_option linter.unusedSimpArgs false

/-! ### wardenlaw02_AluAsks: function 10 -/
mutual
def wardenlaw02_AluAsks.j0 : Nat → Int → Bool → Int → Int → Bool → Bool → Bool → Bool → Bool → Option (Bool)
  | 0, _, _, _, _, _, _, _, _, _ => none
  | k + 1, x0, x1, x2, x3, x11, x13, x15, x17, x120 => if x120 = true then (some false) else (if x1 = true then (wardenlaw02_AluAsks.j1 k x0 x1 x2 x3 x11 x13 x15 x17 63) else (wardenlaw02_AluAsks.j1 k x0 x1 x2 x3 x11 x13 x15 x17 31))
def wardenlaw02_AluAsks.j1 : Nat → Int → Bool → Int → Int → Bool → Bool → Bool → Bool → Int → Option (Bool)
  | 0, _, _, _, _, _, _, _, _, _ => none
  | k + 1, x0, x1, x2, x3, x11, x13, x15, x17, x19 => if 0 ≤ x19 then (if (Go.bits .and .u64 (shr .u64 x2 x19) 1) = (Go.bits .and .u64 (shr .u64 x3 x19) 1) then (if (x15 != x11) = true then (wardenlaw02_AluAsks.j2 k x0 x1 x2 x3 true) else (if (x17 != x13) = true then (wardenlaw02_AluAsks.j2 k x0 x1 x2 x3 true) else (wardenlaw02_AluAsks.j2 k x0 x1 x2 x3 false))) else (wardenlaw02_AluAsks.j2 k x0 x1 x2 x3 (x15 == x11))) else (none)
def wardenlaw02_AluAsks.j2 : Nat → Int → Bool → Int → Int → Bool → Option (Bool)
  | 0, _, _, _, _, _ => none
  | k + 1, x0, x1, x2, x3, x156 => if x156 = true then (some false) else ((alu_Asks.f x0 x1 x2 x3).bind fun bt125 => ((alu_Turned.f x0).bind fun bt127 => ((alu_Other.f x0).bind fun bt129 => (if bt127.2 = true then ((alu_Asks.f bt127.1 x1 x3 x2).bind fun bt131 => ((alu_Turned.f bt127.1).bind fun bt133 => (if bt125.2 = 0 then (if (bt131.1 != bt125.1) = true then (some false) else (if bt133.1 = x0 then (wardenlaw02_AluAsks.j3 k x0 x1 x2 x3 bt125.1 bt125.2 bt129.1 bt129.2) else (some false))) else (some false)))) else (wardenlaw02_AluAsks.j3 k x0 x1 x2 x3 bt125.1 bt125.2 bt129.1 bt129.2)))))
def wardenlaw02_AluAsks.j3 : Nat → Int → Bool → Int → Int → Bool → Int → Int → Bool → Option (Bool)
  | 0, _, _, _, _, _, _, _, _ => none
  | k + 1, x0, x1, x2, x3, x20, x21, x24, x25 => if x25 = true then ((alu_Asks.f x24 x1 x2 x3).bind fun bt135 => ((alu_Other.f x24).bind fun bt137 => (if x21 = 0 then (if (bt135.1 != x20) = true then (if bt137.1 = x0 then ((wardenlaw02_alive.f).bind fun t139 => (some t139)) else (some false)) else (some false)) else (some false)))) else ((wardenlaw02_alive.f).bind fun t140 => (some t140))
end
def wardenlaw02_AluAsks.f (k : Nat) (a0 : Int) (a1 : Bool) (a2 : Int) (a3 : Int) : Option (Bool) := (alu_Asks.f 1 a1 a2 a3).bind fun bt115 => ((alu_Asks.f 10 a1 a2 a3).bind fun bt117 => ((alu_Asks.f 2 a1 a2 a3).bind fun bt119 => ((alu_Asks.f 12 a1 a2 a3).bind fun bt121 => ((alu_Asks.f 6 a1 a2 a3).bind fun bt123 => (if bt115.1 = true then (if bt117.1 = true then (wardenlaw02_AluAsks.j0 k a0 a1 a2 a3 bt117.1 bt119.1 bt121.1 bt123.1 true) else (if bt119.1 = true then (wardenlaw02_AluAsks.j0 k a0 a1 a2 a3 bt117.1 bt119.1 bt121.1 bt123.1 true) else (if bt121.1 = true then (wardenlaw02_AluAsks.j0 k a0 a1 a2 a3 bt117.1 bt119.1 bt121.1 bt123.1 true) else (if bt123.1 = true then (wardenlaw02_AluAsks.j0 k a0 a1 a2 a3 bt117.1 bt119.1 bt121.1 bt123.1 true) else (wardenlaw02_AluAsks.j0 k a0 a1 a2 a3 bt117.1 bt119.1 bt121.1 bt123.1 false))))) else (if bt117.1 = true then (if bt119.1 = true then (wardenlaw02_AluAsks.j0 k a0 a1 a2 a3 bt117.1 bt119.1 bt121.1 bt123.1 true) else (if bt121.1 = true then (if bt123.1 = true then (wardenlaw02_AluAsks.j0 k a0 a1 a2 a3 bt117.1 bt119.1 bt121.1 bt123.1 true) else (wardenlaw02_AluAsks.j0 k a0 a1 a2 a3 bt117.1 bt119.1 bt121.1 bt123.1 false)) else (wardenlaw02_AluAsks.j0 k a0 a1 a2 a3 bt117.1 bt119.1 bt121.1 bt123.1 (!bt123.1)))) else (if bt119.1 = true then (if bt121.1 = true then (if bt123.1 = true then (wardenlaw02_AluAsks.j0 k a0 a1 a2 a3 bt117.1 bt119.1 bt121.1 bt123.1 true) else (wardenlaw02_AluAsks.j0 k a0 a1 a2 a3 bt117.1 bt119.1 bt121.1 bt123.1 false)) else (wardenlaw02_AluAsks.j0 k a0 a1 a2 a3 bt117.1 bt119.1 bt121.1 bt123.1 (!bt123.1))) else (wardenlaw02_AluAsks.j0 k a0 a1 a2 a3 bt117.1 bt119.1 bt121.1 bt123.1 true))))))))
theorem wardenlaw02_AluAsks.mono_l : ∀ k, (∀ y0 y1 y2 y3 y4 y5 y6 y7 y8, LeO (wardenlaw02_AluAsks.j0 k y0 y1 y2 y3 y4 y5 y6 y7 y8) (wardenlaw02_AluAsks.j0 (k + 1) y0 y1 y2 y3 y4 y5 y6 y7 y8)) ∧ (∀ y0 y1 y2 y3 y4 y5 y6 y7 y8, LeO (wardenlaw02_AluAsks.j1 k y0 y1 y2 y3 y4 y5 y6 y7 y8) (wardenlaw02_AluAsks.j1 (k + 1) y0 y1 y2 y3 y4 y5 y6 y7 y8)) ∧ (∀ y0 y1 y2 y3 y4, LeO (wardenlaw02_AluAsks.j2 k y0 y1 y2 y3 y4) (wardenlaw02_AluAsks.j2 (k + 1) y0 y1 y2 y3 y4)) ∧ (∀ y0 y1 y2 y3 y4 y5 y6 y7, LeO (wardenlaw02_AluAsks.j3 k y0 y1 y2 y3 y4 y5 y6 y7) (wardenlaw02_AluAsks.j3 (k + 1) y0 y1 y2 y3 y4 y5 y6 y7))
  | 0 => ⟨fun _ _ _ _ _ _ _ _ _ r h => by simp [wardenlaw02_AluAsks.j0] at h, fun _ _ _ _ _ _ _ _ _ r h => by simp [wardenlaw02_AluAsks.j1] at h, fun _ _ _ _ _ r h => by simp [wardenlaw02_AluAsks.j2] at h, fun _ _ _ _ _ _ _ _ r h => by simp [wardenlaw02_AluAsks.j3] at h⟩
  | k + 1 => by
    obtain ⟨ih0, ih1, ih2, ih3⟩ := wardenlaw02_AluAsks.mono_l k
    refine ⟨?_, ?_, ?_, ?_⟩
    · intro y0 y1 y2 y3 y4 y5 y6 y7 y8
      unfold wardenlaw02_AluAsks.j0
      repeat' first
      | (with_reducible exact ih0 _ _ _ _ _ _ _ _ _)
      | (with_reducible exact ih1 _ _ _ _ _ _ _ _ _)
      | (with_reducible exact ih2 _ _ _ _ _)
      | (with_reducible exact ih3 _ _ _ _ _ _ _ _)
      | (with_reducible exact LeO.refl _)
      | (with_reducible exact LeO.none _)
      | (with_reducible refine LeO.ite ?_ ?_)
      | (with_reducible refine LeO.bind ?_ (fun _ => ?_))
      | exact ih0 _ _ _ _ _ _ _ _ _
      | exact ih1 _ _ _ _ _ _ _ _ _
      | exact ih2 _ _ _ _ _
      | exact ih3 _ _ _ _ _ _ _ _
      | exact LeO.none _
      | refine LeO.ite ?_ ?_
      | refine LeO.bind ?_ (fun _ => ?_)
    · intro y0 y1 y2 y3 y4 y5 y6 y7 y8
      unfold wardenlaw02_AluAsks.j1
      repeat' first
      | (with_reducible exact ih0 _ _ _ _ _ _ _ _ _)
      | (with_reducible exact ih1 _ _ _ _ _ _ _ _ _)
      | (with_reducible exact ih2 _ _ _ _ _)
      | (with_reducible exact ih3 _ _ _ _ _ _ _ _)
      | (with_reducible exact LeO.refl _)
      | (with_reducible exact LeO.none _)
      | (with_reducible refine LeO.ite ?_ ?_)
      | (with_reducible refine LeO.bind ?_ (fun _ => ?_))
      | exact ih0 _ _ _ _ _ _ _ _ _
      | exact ih1 _ _ _ _ _ _ _ _ _
      | exact ih2 _ _ _ _ _
      | exact ih3 _ _ _ _ _ _ _ _
      | exact LeO.none _
      | refine LeO.ite ?_ ?_
      | refine LeO.bind ?_ (fun _ => ?_)
    · intro y0 y1 y2 y3 y4
      unfold wardenlaw02_AluAsks.j2
      repeat' first
      | (with_reducible exact ih0 _ _ _ _ _ _ _ _ _)
      | (with_reducible exact ih1 _ _ _ _ _ _ _ _ _)
      | (with_reducible exact ih2 _ _ _ _ _)
      | (with_reducible exact ih3 _ _ _ _ _ _ _ _)
      | (with_reducible exact LeO.refl _)
      | (with_reducible exact LeO.none _)
      | (with_reducible refine LeO.ite ?_ ?_)
      | (with_reducible refine LeO.bind ?_ (fun _ => ?_))
      | exact ih0 _ _ _ _ _ _ _ _ _
      | exact ih1 _ _ _ _ _ _ _ _ _
      | exact ih2 _ _ _ _ _
      | exact ih3 _ _ _ _ _ _ _ _
      | exact LeO.none _
      | refine LeO.ite ?_ ?_
      | refine LeO.bind ?_ (fun _ => ?_)
    · intro y0 y1 y2 y3 y4 y5 y6 y7
      unfold wardenlaw02_AluAsks.j3
      repeat' first
      | (with_reducible exact ih0 _ _ _ _ _ _ _ _ _)
      | (with_reducible exact ih1 _ _ _ _ _ _ _ _ _)
      | (with_reducible exact ih2 _ _ _ _ _)
      | (with_reducible exact ih3 _ _ _ _ _ _ _ _)
      | (with_reducible exact LeO.refl _)
      | (with_reducible exact LeO.none _)
      | (with_reducible refine LeO.ite ?_ ?_)
      | (with_reducible refine LeO.bind ?_ (fun _ => ?_))
      | exact ih0 _ _ _ _ _ _ _ _ _
      | exact ih1 _ _ _ _ _ _ _ _ _
      | exact ih2 _ _ _ _ _
      | exact ih3 _ _ _ _ _ _ _ _
      | exact LeO.none _
      | refine LeO.ite ?_ ?_
      | refine LeO.bind ?_ (fun _ => ?_)
theorem wardenlaw02_AluAsks.mono : ∀ a0 a1 a2 a3 k, LeO (wardenlaw02_AluAsks.f k a0 a1 a2 a3) (wardenlaw02_AluAsks.f (k + 1) a0 a1 a2 a3) := by
  intro a0 a1 a2 a3 k
  obtain ⟨ih0, ih1, ih2, ih3⟩ := wardenlaw02_AluAsks.mono_l k
  unfold wardenlaw02_AluAsks.f
  repeat' first
      | (with_reducible exact ih0 _ _ _ _ _ _ _ _ _)
      | (with_reducible exact ih1 _ _ _ _ _ _ _ _ _)
      | (with_reducible exact ih2 _ _ _ _ _)
      | (with_reducible exact ih3 _ _ _ _ _ _ _ _)
      | (with_reducible exact LeO.refl _)
      | (with_reducible exact LeO.none _)
      | (with_reducible refine LeO.ite ?_ ?_)
      | (with_reducible refine LeO.bind ?_ (fun _ => ?_))
      | exact ih0 _ _ _ _ _ _ _ _ _
      | exact ih1 _ _ _ _ _ _ _ _ _
      | exact ih2 _ _ _ _ _
      | exact ih3 _ _ _ _ _ _ _ _
      | exact LeO.none _
      | refine LeO.ite ?_ ?_
      | refine LeO.bind ?_ (fun _ => ?_)
set_option maxHeartbeats 8000000 in
set_option maxRecDepth 100000 in
theorem wardenlaw02_AluAsks.calls (k : Nat) (a0 : Int) (a1 : Bool) (a2 : Int) (a3 : Int) (r : Bool) (w : World) (h : wardenlaw02_AluAsks.f k a0 a1 a2 a3 = some r) :
    Calls Try.prog 10 #[.int .u8 a0, .bool a1, .int .u64 a2, .int .u64 a3] w fun e w' => e = .returned (.bool r) ∧ Below w.heap.size w w' := by
  have HB := Aside0.mk (Below.refl w.heap.size w)
  have H : ((alu_Asks.f 1 a1 a2 a3).bind fun bt115 => ((alu_Asks.f 10 a1 a2 a3).bind fun bt117 => ((alu_Asks.f 2 a1 a2 a3).bind fun bt119 => ((alu_Asks.f 12 a1 a2 a3).bind fun bt121 => ((alu_Asks.f 6 a1 a2 a3).bind fun bt123 => (if bt115.1 = true then (if bt117.1 = true then (wardenlaw02_AluAsks.j0 k a0 a1 a2 a3 bt117.1 bt119.1 bt121.1 bt123.1 true) else (if bt119.1 = true then (wardenlaw02_AluAsks.j0 k a0 a1 a2 a3 bt117.1 bt119.1 bt121.1 bt123.1 true) else (if bt121.1 = true then (wardenlaw02_AluAsks.j0 k a0 a1 a2 a3 bt117.1 bt119.1 bt121.1 bt123.1 true) else (if bt123.1 = true then (wardenlaw02_AluAsks.j0 k a0 a1 a2 a3 bt117.1 bt119.1 bt121.1 bt123.1 true) else (wardenlaw02_AluAsks.j0 k a0 a1 a2 a3 bt117.1 bt119.1 bt121.1 bt123.1 false))))) else (if bt117.1 = true then (if bt119.1 = true then (wardenlaw02_AluAsks.j0 k a0 a1 a2 a3 bt117.1 bt119.1 bt121.1 bt123.1 true) else (if bt121.1 = true then (if bt123.1 = true then (wardenlaw02_AluAsks.j0 k a0 a1 a2 a3 bt117.1 bt119.1 bt121.1 bt123.1 true) else (wardenlaw02_AluAsks.j0 k a0 a1 a2 a3 bt117.1 bt119.1 bt121.1 bt123.1 false)) else (wardenlaw02_AluAsks.j0 k a0 a1 a2 a3 bt117.1 bt119.1 bt121.1 bt123.1 (!bt123.1)))) else (if bt119.1 = true then (if bt121.1 = true then (if bt123.1 = true then (wardenlaw02_AluAsks.j0 k a0 a1 a2 a3 bt117.1 bt119.1 bt121.1 bt123.1 true) else (wardenlaw02_AluAsks.j0 k a0 a1 a2 a3 bt117.1 bt119.1 bt121.1 bt123.1 false)) else (wardenlaw02_AluAsks.j0 k a0 a1 a2 a3 bt117.1 bt119.1 bt121.1 bt123.1 (!bt123.1))) else (wardenlaw02_AluAsks.j0 k a0 a1 a2 a3 bt117.1 bt119.1 bt121.1 bt123.1 true))))))))) = some r := h
  clear h
  replace H := Option.bind_eq_some_iff.mp H
  obtain ⟨⟨t115, t116⟩, A50, H⟩ := H
  replace H : ((alu_Asks.f 10 a1 a2 a3).bind fun bt117 => ((alu_Asks.f 2 a1 a2 a3).bind fun bt119 => ((alu_Asks.f 12 a1 a2 a3).bind fun bt121 => ((alu_Asks.f 6 a1 a2 a3).bind fun bt123 => (if t115 = true then (if bt117.1 = true then (wardenlaw02_AluAsks.j0 k a0 a1 a2 a3 bt117.1 bt119.1 bt121.1 bt123.1 true) else (if bt119.1 = true then (wardenlaw02_AluAsks.j0 k a0 a1 a2 a3 bt117.1 bt119.1 bt121.1 bt123.1 true) else (if bt121.1 = true then (wardenlaw02_AluAsks.j0 k a0 a1 a2 a3 bt117.1 bt119.1 bt121.1 bt123.1 true) else (if bt123.1 = true then (wardenlaw02_AluAsks.j0 k a0 a1 a2 a3 bt117.1 bt119.1 bt121.1 bt123.1 true) else (wardenlaw02_AluAsks.j0 k a0 a1 a2 a3 bt117.1 bt119.1 bt121.1 bt123.1 false))))) else (if bt117.1 = true then (if bt119.1 = true then (wardenlaw02_AluAsks.j0 k a0 a1 a2 a3 bt117.1 bt119.1 bt121.1 bt123.1 true) else (if bt121.1 = true then (if bt123.1 = true then (wardenlaw02_AluAsks.j0 k a0 a1 a2 a3 bt117.1 bt119.1 bt121.1 bt123.1 true) else (wardenlaw02_AluAsks.j0 k a0 a1 a2 a3 bt117.1 bt119.1 bt121.1 bt123.1 false)) else (wardenlaw02_AluAsks.j0 k a0 a1 a2 a3 bt117.1 bt119.1 bt121.1 bt123.1 (!bt123.1)))) else (if bt119.1 = true then (if bt121.1 = true then (if bt123.1 = true then (wardenlaw02_AluAsks.j0 k a0 a1 a2 a3 bt117.1 bt119.1 bt121.1 bt123.1 true) else (wardenlaw02_AluAsks.j0 k a0 a1 a2 a3 bt117.1 bt119.1 bt121.1 bt123.1 false)) else (wardenlaw02_AluAsks.j0 k a0 a1 a2 a3 bt117.1 bt119.1 bt121.1 bt123.1 (!bt123.1))) else (wardenlaw02_AluAsks.j0 k a0 a1 a2 a3 bt117.1 bt119.1 bt121.1 bt123.1 true)))))))) = some r := H
  have A5 := Aside0.mk A50
  clear A50
  replace H := Option.bind_eq_some_iff.mp H
  obtain ⟨⟨t117, t118⟩, A60, H⟩ := H
  replace H : ((alu_Asks.f 2 a1 a2 a3).bind fun bt119 => ((alu_Asks.f 12 a1 a2 a3).bind fun bt121 => ((alu_Asks.f 6 a1 a2 a3).bind fun bt123 => (if t115 = true then (if t117 = true then (wardenlaw02_AluAsks.j0 k a0 a1 a2 a3 t117 bt119.1 bt121.1 bt123.1 true) else (if bt119.1 = true then (wardenlaw02_AluAsks.j0 k a0 a1 a2 a3 t117 bt119.1 bt121.1 bt123.1 true) else (if bt121.1 = true then (wardenlaw02_AluAsks.j0 k a0 a1 a2 a3 t117 bt119.1 bt121.1 bt123.1 true) else (if bt123.1 = true then (wardenlaw02_AluAsks.j0 k a0 a1 a2 a3 t117 bt119.1 bt121.1 bt123.1 true) else (wardenlaw02_AluAsks.j0 k a0 a1 a2 a3 t117 bt119.1 bt121.1 bt123.1 false))))) else (if t117 = true then (if bt119.1 = true then (wardenlaw02_AluAsks.j0 k a0 a1 a2 a3 t117 bt119.1 bt121.1 bt123.1 true) else (if bt121.1 = true then (if bt123.1 = true then (wardenlaw02_AluAsks.j0 k a0 a1 a2 a3 t117 bt119.1 bt121.1 bt123.1 true) else (wardenlaw02_AluAsks.j0 k a0 a1 a2 a3 t117 bt119.1 bt121.1 bt123.1 false)) else (wardenlaw02_AluAsks.j0 k a0 a1 a2 a3 t117 bt119.1 bt121.1 bt123.1 (!bt123.1)))) else (if bt119.1 = true then (if bt121.1 = true then (if bt123.1 = true then (wardenlaw02_AluAsks.j0 k a0 a1 a2 a3 t117 bt119.1 bt121.1 bt123.1 true) else (wardenlaw02_AluAsks.j0 k a0 a1 a2 a3 t117 bt119.1 bt121.1 bt123.1 false)) else (wardenlaw02_AluAsks.j0 k a0 a1 a2 a3 t117 bt119.1 bt121.1 bt123.1 (!bt123.1))) else (wardenlaw02_AluAsks.j0 k a0 a1 a2 a3 t117 bt119.1 bt121.1 bt123.1 true))))))) = some r := H
  have A6 := Aside0.mk A60
  clear A60
  replace H := Option.bind_eq_some_iff.mp H
  obtain ⟨⟨t119, t120⟩, A70, H⟩ := H
  replace H : ((alu_Asks.f 12 a1 a2 a3).bind fun bt121 => ((alu_Asks.f 6 a1 a2 a3).bind fun bt123 => (if t115 = true then (if t117 = true then (wardenlaw02_AluAsks.j0 k a0 a1 a2 a3 t117 t119 bt121.1 bt123.1 true) else (if t119 = true then (wardenlaw02_AluAsks.j0 k a0 a1 a2 a3 t117 t119 bt121.1 bt123.1 true) else (if bt121.1 = true then (wardenlaw02_AluAsks.j0 k a0 a1 a2 a3 t117 t119 bt121.1 bt123.1 true) else (if bt123.1 = true then (wardenlaw02_AluAsks.j0 k a0 a1 a2 a3 t117 t119 bt121.1 bt123.1 true) else (wardenlaw02_AluAsks.j0 k a0 a1 a2 a3 t117 t119 bt121.1 bt123.1 false))))) else (if t117 = true then (if t119 = true then (wardenlaw02_AluAsks.j0 k a0 a1 a2 a3 t117 t119 bt121.1 bt123.1 true) else (if bt121.1 = true then (if bt123.1 = true then (wardenlaw02_AluAsks.j0 k a0 a1 a2 a3 t117 t119 bt121.1 bt123.1 true) else (wardenlaw02_AluAsks.j0 k a0 a1 a2 a3 t117 t119 bt121.1 bt123.1 false)) else (wardenlaw02_AluAsks.j0 k a0 a1 a2 a3 t117 t119 bt121.1 bt123.1 (!bt123.1)))) else (if t119 = true then (if bt121.1 = true then (if bt123.1 = true then (wardenlaw02_AluAsks.j0 k a0 a1 a2 a3 t117 t119 bt121.1 bt123.1 true) else (wardenlaw02_AluAsks.j0 k a0 a1 a2 a3 t117 t119 bt121.1 bt123.1 false)) else (wardenlaw02_AluAsks.j0 k a0 a1 a2 a3 t117 t119 bt121.1 bt123.1 (!bt123.1))) else (wardenlaw02_AluAsks.j0 k a0 a1 a2 a3 t117 t119 bt121.1 bt123.1 true)))))) = some r := H
  have A7 := Aside0.mk A70
  clear A70
  replace H := Option.bind_eq_some_iff.mp H
  obtain ⟨⟨t121, t122⟩, A80, H⟩ := H
  replace H : ((alu_Asks.f 6 a1 a2 a3).bind fun bt123 => (if t115 = true then (if t117 = true then (wardenlaw02_AluAsks.j0 k a0 a1 a2 a3 t117 t119 t121 bt123.1 true) else (if t119 = true then (wardenlaw02_AluAsks.j0 k a0 a1 a2 a3 t117 t119 t121 bt123.1 true) else (if t121 = true then (wardenlaw02_AluAsks.j0 k a0 a1 a2 a3 t117 t119 t121 bt123.1 true) else (if bt123.1 = true then (wardenlaw02_AluAsks.j0 k a0 a1 a2 a3 t117 t119 t121 bt123.1 true) else (wardenlaw02_AluAsks.j0 k a0 a1 a2 a3 t117 t119 t121 bt123.1 false))))) else (if t117 = true then (if t119 = true then (wardenlaw02_AluAsks.j0 k a0 a1 a2 a3 t117 t119 t121 bt123.1 true) else (if t121 = true then (if bt123.1 = true then (wardenlaw02_AluAsks.j0 k a0 a1 a2 a3 t117 t119 t121 bt123.1 true) else (wardenlaw02_AluAsks.j0 k a0 a1 a2 a3 t117 t119 t121 bt123.1 false)) else (wardenlaw02_AluAsks.j0 k a0 a1 a2 a3 t117 t119 t121 bt123.1 (!bt123.1)))) else (if t119 = true then (if t121 = true then (if bt123.1 = true then (wardenlaw02_AluAsks.j0 k a0 a1 a2 a3 t117 t119 t121 bt123.1 true) else (wardenlaw02_AluAsks.j0 k a0 a1 a2 a3 t117 t119 t121 bt123.1 false)) else (wardenlaw02_AluAsks.j0 k a0 a1 a2 a3 t117 t119 t121 bt123.1 (!bt123.1))) else (wardenlaw02_AluAsks.j0 k a0 a1 a2 a3 t117 t119 t121 bt123.1 true))))) = some r := H
  have A8 := Aside0.mk A80
  clear A80
  replace H := Option.bind_eq_some_iff.mp H
  obtain ⟨⟨t123, t124⟩, A90, H⟩ := H
  replace H : (if t115 = true then (if t117 = true then (wardenlaw02_AluAsks.j0 k a0 a1 a2 a3 t117 t119 t121 t123 true) else (if t119 = true then (wardenlaw02_AluAsks.j0 k a0 a1 a2 a3 t117 t119 t121 t123 true) else (if t121 = true then (wardenlaw02_AluAsks.j0 k a0 a1 a2 a3 t117 t119 t121 t123 true) else (if t123 = true then (wardenlaw02_AluAsks.j0 k a0 a1 a2 a3 t117 t119 t121 t123 true) else (wardenlaw02_AluAsks.j0 k a0 a1 a2 a3 t117 t119 t121 t123 false))))) else (if t117 = true then (if t119 = true then (wardenlaw02_AluAsks.j0 k a0 a1 a2 a3 t117 t119 t121 t123 true) else (if t121 = true then (if t123 = true then (wardenlaw02_AluAsks.j0 k a0 a1 a2 a3 t117 t119 t121 t123 true) else (wardenlaw02_AluAsks.j0 k a0 a1 a2 a3 t117 t119 t121 t123 false)) else (wardenlaw02_AluAsks.j0 k a0 a1 a2 a3 t117 t119 t121 t123 (!t123)))) else (if t119 = true then (if t121 = true then (if t123 = true then (wardenlaw02_AluAsks.j0 k a0 a1 a2 a3 t117 t119 t121 t123 true) else (wardenlaw02_AluAsks.j0 k a0 a1 a2 a3 t117 t119 t121 t123 false)) else (wardenlaw02_AluAsks.j0 k a0 a1 a2 a3 t117 t119 t121 t123 (!t123))) else (wardenlaw02_AluAsks.j0 k a0 a1 a2 a3 t117 t119 t121 t123 true)))) = some r := H
  have A9 := Aside0.mk A90
  clear A90
  have HC10 := Aside0.mk H
  clear H
  go_enter Try.func10, Try.ntmps10
  go_upto_region 6 with (first | ((with_reducible refine gate_callee (f := 14) rfl ?_); refine goesL_ (some 38) rfl rfl Try.func14 (by kernel_rfl) rfl #[.int .u8 1, .bool a1, .int .u64 a2, .int .u64 a3] rfl (by (try simp only [List.map_toArray, List.map_cons, List.map_nil]); first | done | rfl | (simp only [List.length_drop, List.length_take]; rfl)) ?_; (with_reducible refine (alu_Asks.calls 1 a1 a2 a3 t115 t116 _ A5.out).mono ?_); rintro e w11 ⟨rfl, hb⟩; refine ⟨_, rfl, ?_⟩; have n0_ := Aside0.mk (below_step (by repeat (first | (with_reducible first | exact HB.out | apply below_alloc | apply pw_below_drewN | apply below_drew1) | exact HB.out)) hb); clear HB; have HB := n0_; clear n0_; (try clear hb); (try clear hb2); (try clear hk); (try clear hi)) | ((with_reducible refine gate_callee (f := 14) rfl ?_); refine goesL_ (some 45) rfl rfl Try.func14 (by kernel_rfl) rfl #[.int .u8 10, .bool a1, .int .u64 a2, .int .u64 a3] rfl (by (try simp only [List.map_toArray, List.map_cons, List.map_nil]); first | done | rfl | (simp only [List.length_drop, List.length_take]; rfl)) ?_; (with_reducible refine (alu_Asks.calls 10 a1 a2 a3 t117 t118 _ A6.out).mono ?_); rintro e w12 ⟨rfl, hb⟩; refine ⟨_, rfl, ?_⟩; have n0_ := Aside0.mk (below_step (by repeat (first | (with_reducible first | exact HB.out | apply below_alloc | apply pw_below_drewN | apply below_drew1) | exact HB.out)) hb); clear HB; have HB := n0_; clear n0_; (try clear hb); (try clear hb2); (try clear hk); (try clear hi)) | ((with_reducible refine gate_callee (f := 14) rfl ?_); refine goesL_ (some 52) rfl rfl Try.func14 (by kernel_rfl) rfl #[.int .u8 2, .bool a1, .int .u64 a2, .int .u64 a3] rfl (by (try simp only [List.map_toArray, List.map_cons, List.map_nil]); first | done | rfl | (simp only [List.length_drop, List.length_take]; rfl)) ?_; (with_reducible refine (alu_Asks.calls 2 a1 a2 a3 t119 t120 _ A7.out).mono ?_); rintro e w13 ⟨rfl, hb⟩; refine ⟨_, rfl, ?_⟩; have n0_ := Aside0.mk (below_step (by repeat (first | (with_reducible first | exact HB.out | apply below_alloc | apply pw_below_drewN | apply below_drew1) | exact HB.out)) hb); clear HB; have HB := n0_; clear n0_; (try clear hb); (try clear hb2); (try clear hk); (try clear hi)) | ((with_reducible refine gate_callee (f := 14) rfl ?_); refine goesL_ (some 59) rfl rfl Try.func14 (by kernel_rfl) rfl #[.int .u8 12, .bool a1, .int .u64 a2, .int .u64 a3] rfl (by (try simp only [List.map_toArray, List.map_cons, List.map_nil]); first | done | rfl | (simp only [List.length_drop, List.length_take]; rfl)) ?_; (with_reducible refine (alu_Asks.calls 12 a1 a2 a3 t121 t122 _ A8.out).mono ?_); rintro e w14 ⟨rfl, hb⟩; refine ⟨_, rfl, ?_⟩; have n0_ := Aside0.mk (below_step (by repeat (first | (with_reducible first | exact HB.out | apply below_alloc | apply pw_below_drewN | apply below_drew1) | exact HB.out)) hb); clear HB; have HB := n0_; clear n0_; (try clear hb); (try clear hb2); (try clear hk); (try clear hi)) | ((with_reducible refine gate_callee (f := 14) rfl ?_); refine goesL_ (some 66) rfl rfl Try.func14 (by kernel_rfl) rfl #[.int .u8 6, .bool a1, .int .u64 a2, .int .u64 a3] rfl (by (try simp only [List.map_toArray, List.map_cons, List.map_nil]); first | done | rfl | (simp only [List.length_drop, List.length_take]; rfl)) ?_; (with_reducible refine (alu_Asks.calls 6 a1 a2 a3 t123 t124 _ A9.out).mono ?_); rintro e w15 ⟨rfl, hb⟩; refine ⟨_, rfl, ?_⟩; have n0_ := Aside0.mk (below_step (by repeat (first | (with_reducible first | exact HB.out | apply below_alloc | apply pw_below_drewN | apply below_drew1) | exact HB.out)) hb); clear HB; have HB := n0_; clear n0_; (try clear hb); (try clear hb2); (try clear hk); (try clear hi)))
  (try simp only [Act.put, List.setIfInBounds_toArray, List.set_cons_zero, List.set_cons_succ])
  go_cut [120] (fun v120 wc => ∃ (kq : Nat) (x120_9 : Bool), v120 = .bool x120_9 ∧ Aside0 (wardenlaw02_AluAsks.j0 kq a0 a1 a2 a3 t117 t119 t121 t123 x120_9 = some r) ∧ Aside0 (kq ≤ k) ∧ Aside0 (Below w.heap.size w wc))
  case first =>
    have H := HC10.out
    clear HC10
    by_cases c16 : t115 = true
    · subst c16
      have H1 : (if t117 = true then (wardenlaw02_AluAsks.j0 k a0 a1 a2 a3 t117 t119 t121 t123 true) else (if t119 = true then (wardenlaw02_AluAsks.j0 k a0 a1 a2 a3 t117 t119 t121 t123 true) else (if t121 = true then (wardenlaw02_AluAsks.j0 k a0 a1 a2 a3 t117 t119 t121 t123 true) else (if t123 = true then (wardenlaw02_AluAsks.j0 k a0 a1 a2 a3 t117 t119 t121 t123 true) else (wardenlaw02_AluAsks.j0 k a0 a1 a2 a3 t117 t119 t121 t123 false))))) = some r := by rw [if_pos rfl] at H; exact H
      clear H
      have H := H1
      clear H1
      by_cases c17 : t117 = true
      · subst c17
        have H1 : (wardenlaw02_AluAsks.j0 k a0 a1 a2 a3 true t119 t121 t123 true) = some r := by rw [if_pos rfl] at H; exact H
        clear H
        have H := H1
        clear H1
        have H' := Aside0.mk H
        clear H
        go_wp2
        go_meet
        case rel => exact ⟨_, (true), (by first | rfl | (simp; done) | (simp [*]; done)), H', ⟨by first | omega | exact Nat.le_refl _⟩, ⟨by repeat (first | (with_reducible first | exact HB.out | apply below_alloc | apply pw_below_drewN | apply below_drew1) | exact HB.out)⟩⟩
      · replace c17 := Bool.eq_false_iff.mpr c17
        subst c17
        have H1 : (if t119 = true then (wardenlaw02_AluAsks.j0 k a0 a1 a2 a3 false t119 t121 t123 true) else (if t121 = true then (wardenlaw02_AluAsks.j0 k a0 a1 a2 a3 false t119 t121 t123 true) else (if t123 = true then (wardenlaw02_AluAsks.j0 k a0 a1 a2 a3 false t119 t121 t123 true) else (wardenlaw02_AluAsks.j0 k a0 a1 a2 a3 false t119 t121 t123 false)))) = some r := by rw [if_neg (show ¬ (false = true) by decide)] at H; exact H
        clear H
        have H := H1
        clear H1
        by_cases c18 : t119 = true
        · subst c18
          have H1 : (wardenlaw02_AluAsks.j0 k a0 a1 a2 a3 false true t121 t123 true) = some r := by rw [if_pos rfl] at H; exact H
          clear H
          have H := H1
          clear H1
          have H' := Aside0.mk H
          clear H
          go_wp2
          go_meet
          case rel => exact ⟨_, (true), (by first | rfl | (simp; done) | (simp [*]; done)), H', ⟨by first | omega | exact Nat.le_refl _⟩, ⟨by repeat (first | (with_reducible first | exact HB.out | apply below_alloc | apply pw_below_drewN | apply below_drew1) | exact HB.out)⟩⟩
        · replace c18 := Bool.eq_false_iff.mpr c18
          subst c18
          have H1 : (if t121 = true then (wardenlaw02_AluAsks.j0 k a0 a1 a2 a3 false false t121 t123 true) else (if t123 = true then (wardenlaw02_AluAsks.j0 k a0 a1 a2 a3 false false t121 t123 true) else (wardenlaw02_AluAsks.j0 k a0 a1 a2 a3 false false t121 t123 false))) = some r := by rw [if_neg (show ¬ (false = true) by decide)] at H; exact H
          clear H
          have H := H1
          clear H1
          by_cases c19 : t121 = true
          · subst c19
            have H1 : (wardenlaw02_AluAsks.j0 k a0 a1 a2 a3 false false true t123 true) = some r := by rw [if_pos rfl] at H; exact H
            clear H
            have H := H1
            clear H1
            have H' := Aside0.mk H
            clear H
            go_wp2
            go_meet
            case rel => exact ⟨_, (true), (by first | rfl | (simp; done) | (simp [*]; done)), H', ⟨by first | omega | exact Nat.le_refl _⟩, ⟨by repeat (first | (with_reducible first | exact HB.out | apply below_alloc | apply pw_below_drewN | apply below_drew1) | exact HB.out)⟩⟩
          · replace c19 := Bool.eq_false_iff.mpr c19
            subst c19
            have H1 : (if t123 = true then (wardenlaw02_AluAsks.j0 k a0 a1 a2 a3 false false false t123 true) else (wardenlaw02_AluAsks.j0 k a0 a1 a2 a3 false false false t123 false)) = some r := by rw [if_neg (show ¬ (false = true) by decide)] at H; exact H
            clear H
            have H := H1
            clear H1
            by_cases c20 : t123 = true
            · subst c20
              have H1 : (wardenlaw02_AluAsks.j0 k a0 a1 a2 a3 false false false true true) = some r := by rw [if_pos rfl] at H; exact H
              clear H
              have H := H1
              clear H1
              have H' := Aside0.mk H
              clear H
              go_wp2
              go_meet
              case rel => exact ⟨_, (true), (by first | rfl | (simp; done) | (simp [*]; done)), H', ⟨by first | omega | exact Nat.le_refl _⟩, ⟨by repeat (first | (with_reducible first | exact HB.out | apply below_alloc | apply pw_below_drewN | apply below_drew1) | exact HB.out)⟩⟩
            · replace c20 := Bool.eq_false_iff.mpr c20
              subst c20
              have H1 : (wardenlaw02_AluAsks.j0 k a0 a1 a2 a3 false false false false false) = some r := by rw [if_neg (show ¬ (false = true) by decide)] at H; exact H
              clear H
              have H := H1
              clear H1
              have H' := Aside0.mk H
              clear H
              go_wp2
              go_meet
              case rel => exact ⟨_, (false), (by first | rfl | (simp; done) | (simp [*]; done)), H', ⟨by first | omega | exact Nat.le_refl _⟩, ⟨by repeat (first | (with_reducible first | exact HB.out | apply below_alloc | apply pw_below_drewN | apply below_drew1) | exact HB.out)⟩⟩
    · replace c16 := Bool.eq_false_iff.mpr c16
      subst c16
      have H1 : (if t117 = true then (if t119 = true then (wardenlaw02_AluAsks.j0 k a0 a1 a2 a3 t117 t119 t121 t123 true) else (if t121 = true then (if t123 = true then (wardenlaw02_AluAsks.j0 k a0 a1 a2 a3 t117 t119 t121 t123 true) else (wardenlaw02_AluAsks.j0 k a0 a1 a2 a3 t117 t119 t121 t123 false)) else (wardenlaw02_AluAsks.j0 k a0 a1 a2 a3 t117 t119 t121 t123 (!t123)))) else (if t119 = true then (if t121 = true then (if t123 = true then (wardenlaw02_AluAsks.j0 k a0 a1 a2 a3 t117 t119 t121 t123 true) else (wardenlaw02_AluAsks.j0 k a0 a1 a2 a3 t117 t119 t121 t123 false)) else (wardenlaw02_AluAsks.j0 k a0 a1 a2 a3 t117 t119 t121 t123 (!t123))) else (wardenlaw02_AluAsks.j0 k a0 a1 a2 a3 t117 t119 t121 t123 true))) = some r := by rw [if_neg (show ¬ (false = true) by decide)] at H; exact H
      clear H
      have H := H1
      clear H1
      by_cases c21 : t117 = true
      · subst c21
        have H1 : (if t119 = true then (wardenlaw02_AluAsks.j0 k a0 a1 a2 a3 true t119 t121 t123 true) else (if t121 = true then (if t123 = true then (wardenlaw02_AluAsks.j0 k a0 a1 a2 a3 true t119 t121 t123 true) else (wardenlaw02_AluAsks.j0 k a0 a1 a2 a3 true t119 t121 t123 false)) else (wardenlaw02_AluAsks.j0 k a0 a1 a2 a3 true t119 t121 t123 (!t123)))) = some r := by rw [if_pos rfl] at H; exact H
        clear H
        have H := H1
        clear H1
        by_cases c22 : t119 = true
        · subst c22
          have H1 : (wardenlaw02_AluAsks.j0 k a0 a1 a2 a3 true true t121 t123 true) = some r := by rw [if_pos rfl] at H; exact H
          clear H
          have H := H1
          clear H1
          have H' := Aside0.mk H
          clear H
          go_wp2
          go_meet
          case rel => exact ⟨_, (true), (by first | rfl | (simp; done) | (simp [*]; done)), H', ⟨by first | omega | exact Nat.le_refl _⟩, ⟨by repeat (first | (with_reducible first | exact HB.out | apply below_alloc | apply pw_below_drewN | apply below_drew1) | exact HB.out)⟩⟩
        · replace c22 := Bool.eq_false_iff.mpr c22
          subst c22
          have H1 : (if t121 = true then (if t123 = true then (wardenlaw02_AluAsks.j0 k a0 a1 a2 a3 true false t121 t123 true) else (wardenlaw02_AluAsks.j0 k a0 a1 a2 a3 true false t121 t123 false)) else (wardenlaw02_AluAsks.j0 k a0 a1 a2 a3 true false t121 t123 (!t123))) = some r := by rw [if_neg (show ¬ (false = true) by decide)] at H; exact H
          clear H
          have H := H1
          clear H1
          by_cases c23 : t121 = true
          · subst c23
            have H1 : (if t123 = true then (wardenlaw02_AluAsks.j0 k a0 a1 a2 a3 true false true t123 true) else (wardenlaw02_AluAsks.j0 k a0 a1 a2 a3 true false true t123 false)) = some r := by rw [if_pos rfl] at H; exact H
            clear H
            have H := H1
            clear H1
            by_cases c24 : t123 = true
            · subst c24
              have H1 : (wardenlaw02_AluAsks.j0 k a0 a1 a2 a3 true false true true true) = some r := by rw [if_pos rfl] at H; exact H
              clear H
              have H := H1
              clear H1
              have H' := Aside0.mk H
              clear H
              go_wp2
              go_meet
              case rel => exact ⟨_, (true), (by first | rfl | (simp; done) | (simp [*]; done)), H', ⟨by first | omega | exact Nat.le_refl _⟩, ⟨by repeat (first | (with_reducible first | exact HB.out | apply below_alloc | apply pw_below_drewN | apply below_drew1) | exact HB.out)⟩⟩
            · replace c24 := Bool.eq_false_iff.mpr c24
              subst c24
              have H1 : (wardenlaw02_AluAsks.j0 k a0 a1 a2 a3 true false true false false) = some r := by rw [if_neg (show ¬ (false = true) by decide)] at H; exact H
              clear H
              have H := H1
              clear H1
              have H' := Aside0.mk H
              clear H
              go_wp2
              go_meet
              case rel => exact ⟨_, (false), (by first | rfl | (simp; done) | (simp [*]; done)), H', ⟨by first | omega | exact Nat.le_refl _⟩, ⟨by repeat (first | (with_reducible first | exact HB.out | apply below_alloc | apply pw_below_drewN | apply below_drew1) | exact HB.out)⟩⟩
          · replace c23 := Bool.eq_false_iff.mpr c23
            subst c23
            have H1 : (wardenlaw02_AluAsks.j0 k a0 a1 a2 a3 true false false t123 (!t123)) = some r := by rw [if_neg (show ¬ (false = true) by decide)] at H; exact H
            clear H
            have H := H1
            clear H1
            have H' := Aside0.mk H
            clear H
            go_wp2
            go_meet
            case rel => exact ⟨_, (!t123), (by first | rfl | (simp; done) | (simp [*]; done)), H', ⟨by first | omega | exact Nat.le_refl _⟩, ⟨by repeat (first | (with_reducible first | exact HB.out | apply below_alloc | apply pw_below_drewN | apply below_drew1) | exact HB.out)⟩⟩
      · replace c21 := Bool.eq_false_iff.mpr c21
        subst c21
        have H1 : (if t119 = true then (if t121 = true then (if t123 = true then (wardenlaw02_AluAsks.j0 k a0 a1 a2 a3 false t119 t121 t123 true) else (wardenlaw02_AluAsks.j0 k a0 a1 a2 a3 false t119 t121 t123 false)) else (wardenlaw02_AluAsks.j0 k a0 a1 a2 a3 false t119 t121 t123 (!t123))) else (wardenlaw02_AluAsks.j0 k a0 a1 a2 a3 false t119 t121 t123 true)) = some r := by rw [if_neg (show ¬ (false = true) by decide)] at H; exact H
        clear H
        have H := H1
        clear H1
        by_cases c25 : t119 = true
        · subst c25
          have H1 : (if t121 = true then (if t123 = true then (wardenlaw02_AluAsks.j0 k a0 a1 a2 a3 false true t121 t123 true) else (wardenlaw02_AluAsks.j0 k a0 a1 a2 a3 false true t121 t123 false)) else (wardenlaw02_AluAsks.j0 k a0 a1 a2 a3 false true t121 t123 (!t123))) = some r := by rw [if_pos rfl] at H; exact H
          clear H
          have H := H1
          clear H1
          by_cases c26 : t121 = true
          · subst c26
            have H1 : (if t123 = true then (wardenlaw02_AluAsks.j0 k a0 a1 a2 a3 false true true t123 true) else (wardenlaw02_AluAsks.j0 k a0 a1 a2 a3 false true true t123 false)) = some r := by rw [if_pos rfl] at H; exact H
            clear H
            have H := H1
            clear H1
            by_cases c27 : t123 = true
            · subst c27
              have H1 : (wardenlaw02_AluAsks.j0 k a0 a1 a2 a3 false true true true true) = some r := by rw [if_pos rfl] at H; exact H
              clear H
              have H := H1
              clear H1
              have H' := Aside0.mk H
              clear H
              go_wp2
              go_meet
              case rel => exact ⟨_, (true), (by first | rfl | (simp; done) | (simp [*]; done)), H', ⟨by first | omega | exact Nat.le_refl _⟩, ⟨by repeat (first | (with_reducible first | exact HB.out | apply below_alloc | apply pw_below_drewN | apply below_drew1) | exact HB.out)⟩⟩
            · replace c27 := Bool.eq_false_iff.mpr c27
              subst c27
              have H1 : (wardenlaw02_AluAsks.j0 k a0 a1 a2 a3 false true true false false) = some r := by rw [if_neg (show ¬ (false = true) by decide)] at H; exact H
              clear H
              have H := H1
              clear H1
              have H' := Aside0.mk H
              clear H
              go_wp2
              go_meet
              case rel => exact ⟨_, (false), (by first | rfl | (simp; done) | (simp [*]; done)), H', ⟨by first | omega | exact Nat.le_refl _⟩, ⟨by repeat (first | (with_reducible first | exact HB.out | apply below_alloc | apply pw_below_drewN | apply below_drew1) | exact HB.out)⟩⟩
          · replace c26 := Bool.eq_false_iff.mpr c26
            subst c26
            have H1 : (wardenlaw02_AluAsks.j0 k a0 a1 a2 a3 false true false t123 (!t123)) = some r := by rw [if_neg (show ¬ (false = true) by decide)] at H; exact H
            clear H
            have H := H1
            clear H1
            have H' := Aside0.mk H
            clear H
            go_wp2
            go_meet
            case rel => exact ⟨_, (!t123), (by first | rfl | (simp; done) | (simp [*]; done)), H', ⟨by first | omega | exact Nat.le_refl _⟩, ⟨by repeat (first | (with_reducible first | exact HB.out | apply below_alloc | apply pw_below_drewN | apply below_drew1) | exact HB.out)⟩⟩
        · replace c25 := Bool.eq_false_iff.mpr c25
          subst c25
          have H1 : (wardenlaw02_AluAsks.j0 k a0 a1 a2 a3 false false t121 t123 true) = some r := by rw [if_neg (show ¬ (false = true) by decide)] at H; exact H
          clear H
          have H := H1
          clear H1
          have H' := Aside0.mk H
          clear H
          go_wp2
          go_meet
          case rel => exact ⟨_, (true), (by first | rfl | (simp; done) | (simp [*]; done)), H', ⟨by first | omega | exact Nat.le_refl _⟩, ⟨by repeat (first | (with_reducible first | exact HB.out | apply below_alloc | apply pw_below_drewN | apply below_drew1) | exact HB.out)⟩⟩
  case rest =>
    clear HC10
    try clear c1
    try clear c2
    try clear p2
    try clear c10
    try clear c14
    try clear c16
    try clear c17
    try clear c18
    try clear c19
    try clear c20
    try clear c21
    try clear c22
    try clear c23
    try clear c24
    try clear c25
    try clear c26
    try clear c27
    obtain ⟨kq, x120_9, rfl, HA, HJ9, HB⟩ := hcut
    cases kq with
    | zero => exact absurd HA.out (by simp [wardenlaw02_AluAsks.j0])
    | succ kj9 =>
      have H := HA.out
      clear HA
      simp only [wardenlaw02_AluAsks.j0] at H
      by_cases c28 : x120_9 = true
      · subst c28
        have H1 : (some false) = some r := by rw [if_pos rfl] at H; exact H
        clear H
        have H := H1
        clear H1
        obtain rfl := Option.some.inj H
        go_wp2
        go_ret
        exact ⟨by first | rfl | (simp [errW_none, errW_some] <;> rfl) | (simp [*, errW_none, errW_some] <;> rfl), by repeat (first | (with_reducible first | exact HB.out | apply below_alloc | apply pw_below_drewN | apply below_drew1) | exact HB.out)⟩
      · replace c28 := Bool.eq_false_iff.mpr c28
        subst c28
        have H1 : (if a1 = true then (wardenlaw02_AluAsks.j1 kj9 a0 a1 a2 a3 t117 t119 t121 t123 63) else (wardenlaw02_AluAsks.j1 kj9 a0 a1 a2 a3 t117 t119 t121 t123 31)) = some r := by rw [if_neg (show ¬ (false = true) by decide)] at H; exact H
        clear H
        have H := H1
        clear H1
        have HC29 := Aside0.mk H
        clear H
        go_upto_if 121 with (fail)
        go_cut [19] (fun v19 wc => ∃ (kq : Nat) (x19_28 : Int), v19 = .int .u64 x19_28 ∧ Aside0 (wardenlaw02_AluAsks.j1 kq a0 a1 a2 a3 t117 t119 t121 t123 x19_28 = some r) ∧ Aside0 (kq ≤ kj9) ∧ Aside0 (Below w.heap.size w wc))
        case first =>
          have H := HC29.out
          clear HC29
          by_cases c30 : a1 = true
          · subst c30
            have H1 : (wardenlaw02_AluAsks.j1 kj9 a0 true a2 a3 t117 t119 t121 t123 63) = some r := by rw [if_pos rfl] at H; exact H
            clear H
            have H := H1
            clear H1
            have H' := Aside0.mk H
            clear H
            go_wp2
            go_meet
            case rel => exact ⟨_, (63), (by first | rfl | (simp; done) | (simp [*]; done)), H', ⟨by have := HJ9.out; first | omega | exact Nat.le_refl _⟩, ⟨by repeat (first | (with_reducible first | exact HB.out | apply below_alloc | apply pw_below_drewN | apply below_drew1) | exact HB.out)⟩⟩
          · replace c30 := Bool.eq_false_iff.mpr c30
            subst c30
            have H1 : (wardenlaw02_AluAsks.j1 kj9 a0 false a2 a3 t117 t119 t121 t123 31) = some r := by rw [if_neg (show ¬ (false = true) by decide)] at H; exact H
            clear H
            have H := H1
            clear H1
            have H' := Aside0.mk H
            clear H
            go_wp2
            go_meet
            case rel => exact ⟨_, (31), (by first | rfl | (simp; done) | (simp [*]; done)), H', ⟨by have := HJ9.out; first | omega | exact Nat.le_refl _⟩, ⟨by repeat (first | (with_reducible first | exact HB.out | apply below_alloc | apply pw_below_drewN | apply below_drew1) | exact HB.out)⟩⟩
        case rest =>
          clear HC29
          try clear c1
          try clear c2
          try clear p2
          try clear c3
          try clear c10
          try clear c14
          try clear c16
          try clear c17
          try clear c18
          try clear c19
          try clear c20
          try clear c21
          try clear c22
          try clear c23
          try clear c24
          try clear c25
          try clear c26
          try clear c27
          try clear c28
          try clear c30
          try clear p2
          obtain ⟨kq, x19_28, rfl, HA, HJ28, HB⟩ := hcut
          cases kq with
          | zero => exact absurd HA.out (by simp [wardenlaw02_AluAsks.j1])
          | succ kj28 =>
            have H := HA.out
            clear HA
            simp only [wardenlaw02_AluAsks.j1] at H
            have HC31 := Aside0.mk H
            clear H
            go_upto_region 11 with (fail)
            go_cut [156] (fun v156 wc => ∃ (kq : Nat) (x156_30 : Bool), v156 = .bool x156_30 ∧ Aside0 (wardenlaw02_AluAsks.j2 kq a0 a1 a2 a3 x156_30 = some r) ∧ Aside0 (kq ≤ kj28) ∧ Aside0 (Below w.heap.size w wc))
            case first =>
              have H := HC31.out
              clear HC31
              by_cases c32 : 0 ≤ x19_28
              · rw [if_pos c32] at H
                have c32b0 := eq_true c32
                have c32b1 : decide (0 ≤ x19_28) = true := decide_eq_true c32
                clear c32
                obtain ⟨ji33, hji33⟩ : ∃ j_ : Int, (shr .u64 a2 x19_28) = j_ := ⟨_, rfl⟩
                replace H : (if (Go.bits .and .u64 (ji33) 1) = (Go.bits .and .u64 (shr .u64 a3 x19_28) 1) then (if (t121 != t117) = true then (wardenlaw02_AluAsks.j2 kj28 a0 a1 a2 a3 true) else (if (t123 != t119) = true then (wardenlaw02_AluAsks.j2 kj28 a0 a1 a2 a3 true) else (wardenlaw02_AluAsks.j2 kj28 a0 a1 a2 a3 false))) else (wardenlaw02_AluAsks.j2 kj28 a0 a1 a2 a3 (t121 == t117))) = some r := by first | (rw [hji33] at H; exact H) | (simp only [hji33] at H ⊢; exact H)
                have hji33_ : (a2 / 2 ^ min x19_28.toNat 64) = ji33 := hji33
                have hji33z : x19_28 ≤ 64 → (a2 / 2 ^ x19_28.toNat) = ji33 := shr_small hji33
                have c34b0 := eq_true (of_decide_eq_true (by first | (with_reducible assumption) | assumption) : 0 ≤ x19_28)
                obtain ⟨ji35, hji35⟩ : ∃ j_ : Int, (shr .u64 a3 x19_28) = j_ := ⟨_, rfl⟩
                replace H : (if (Go.bits .and .u64 (ji33) 1) = (Go.bits .and .u64 (ji35) 1) then (if (t121 != t117) = true then (wardenlaw02_AluAsks.j2 kj28 a0 a1 a2 a3 true) else (if (t123 != t119) = true then (wardenlaw02_AluAsks.j2 kj28 a0 a1 a2 a3 true) else (wardenlaw02_AluAsks.j2 kj28 a0 a1 a2 a3 false))) else (wardenlaw02_AluAsks.j2 kj28 a0 a1 a2 a3 (t121 == t117))) = some r := by first | (rw [hji35] at H; exact H) | (simp only [hji35] at H ⊢; exact H)
                have hji35_ : (a3 / 2 ^ min x19_28.toNat 64) = ji35 := hji35
                have hji35z : x19_28 ≤ 64 → (a3 / 2 ^ x19_28.toNat) = ji35 := shr_small hji35
                by_cases c36 : (Go.bits .and .u64 (ji33) 1) = (Go.bits .and .u64 (ji35) 1)
                · rw [if_pos c36] at H
                  have c36b0 : ((Go.bits .and .u64 (ji33) 1) == (Go.bits .and .u64 (ji35) 1)) = true := beq_iff_eq.mpr c36
                  have c36b1 : ((Go.bits .and .u64 (ji33) 1) != (Go.bits .and .u64 (ji35) 1)) = false := bne_eq_false_iff_eq.mpr c36
                  clear c36
                  (first | rw [c36b0] | (simp only [i64_w, i32_w]; rw [c36b0]) | skip)
                  by_cases c37 : (t121 != t117) = true
                  · rw [if_pos c37] at H
                    have c37b0 : (t121 != t117) = true := c37
                    (try (have c37b1 : decide (t121 = t117) = false := by simpa using c37))
                    (try (have c37b2 : (t121 == t117) = false := by simpa using c37))
                    (try (have c37b3 : ¬ (t121 = t117) := by simpa using c37))
                    clear c37
                    have H' := Aside0.mk H
                    clear H
                    go_wp2
                    go_meet
                    case rel => exact ⟨_, (true), (by first | rfl | (simp; done) | (simp [*]; done)), H', ⟨by have := HJ9.out; have := HJ28.out; first | omega | exact Nat.le_refl _⟩, ⟨by repeat (first | (with_reducible first | exact HB.out | apply below_alloc | apply pw_below_drewN | apply below_drew1) | exact HB.out)⟩⟩
                  · rw [if_neg c37] at H
                    have c37b0 : (t121 != t117) = false := by simpa using c37
                    (try (have c37b1 : decide (t121 = t117) = true := by simpa using c37))
                    (try (have c37b2 : (t121 == t117) = true := by simpa using c37))
                    clear c37
                    by_cases c38 : (t123 != t119) = true
                    · rw [if_pos c38] at H
                      have c38b0 : (t123 != t119) = true := c38
                      (try (have c38b1 : decide (t123 = t119) = false := by simpa using c38))
                      (try (have c38b2 : (t123 == t119) = false := by simpa using c38))
                      (try (have c38b3 : ¬ (t123 = t119) := by simpa using c38))
                      clear c38
                      have H' := Aside0.mk H
                      clear H
                      go_wp2
                      go_meet
                      case rel => exact ⟨_, (true), (by first | rfl | (simp; done) | (simp [*]; done)), H', ⟨by have := HJ9.out; have := HJ28.out; first | omega | exact Nat.le_refl _⟩, ⟨by repeat (first | (with_reducible first | exact HB.out | apply below_alloc | apply pw_below_drewN | apply below_drew1) | exact HB.out)⟩⟩
                    · rw [if_neg c38] at H
                      have c38b0 : (t123 != t119) = false := by simpa using c38
                      (try (have c38b1 : decide (t123 = t119) = true := by simpa using c38))
                      (try (have c38b2 : (t123 == t119) = true := by simpa using c38))
                      clear c38
                      have c39b0 := eq_true (of_decide_eq_true (by first | (with_reducible assumption) | assumption) : 0 ≤ x19_28)
                      have c40b0 := eq_true (of_decide_eq_true (by first | (with_reducible assumption) | assumption) : ji33)
                      have c41b0 := eq_true (of_decide_eq_true (by first | (with_reducible assumption) | assumption) : 0 ≤ x19_28)
                      have c42b0 := eq_true (of_decide_eq_true (by first | (with_reducible assumption) | assumption) : ji35)
                      have H' := Aside0.mk H
                      clear H
                      go_wp2
                      go_meet
                      case rel => exact ⟨_, (false), (by first | rfl | (simp; done) | (simp [*]; done)), H', ⟨by have := HJ9.out; have := HJ28.out; first | omega | exact Nat.le_refl _⟩, ⟨by repeat (first | (with_reducible first | exact HB.out | apply below_alloc | apply pw_below_drewN | apply below_drew1) | exact HB.out)⟩⟩
                · rw [if_neg c36] at H
                  have c36b0 : ((Go.bits .and .u64 (ji33) 1) == (Go.bits .and .u64 (ji35) 1)) = false := beq_eq_false_iff_ne.mpr c36
                  have c36b1 : ((Go.bits .and .u64 (ji33) 1) != (Go.bits .and .u64 (ji35) 1)) = true := bne_iff_ne.mpr c36
                  (first | rw [c36b0] | (simp only [i64_w, i32_w]; rw [c36b0]) | skip)
                  have c43b0 := eq_true (of_decide_eq_true (by first | (with_reducible assumption) | assumption) : 0 ≤ x19_28)
                  have c44b0 := eq_true (of_decide_eq_true (by first | (with_reducible assumption) | assumption) : ji33)
                  have c45b0 := eq_true (of_decide_eq_true (by first | (with_reducible assumption) | assumption) : 0 ≤ x19_28)
                  have c46b0 := eq_true (of_decide_eq_true (by first | (with_reducible assumption) | assumption) : ji35)
                  have H' := Aside0.mk H
                  clear H
                  go_wp2
                  go_meet
                  case rel => exact ⟨_, ((t121 == t117)), (by first | rfl | (simp; done) | (simp [*]; done)), H', ⟨by have := HJ9.out; have := HJ28.out; first | omega | exact Nat.le_refl _⟩, ⟨by repeat (first | (with_reducible first | exact HB.out | apply below_alloc | apply pw_below_drewN | apply below_drew1) | exact HB.out)⟩⟩
              · rw [if_neg c32] at H
                exact absurd H (by simp)
            case rest =>
              clear HC31
              try clear c1
              try clear c2
              try clear p2
              try clear c3
              try clear c4
              try clear c10
              try clear c14
              try clear c16
              try clear c17
              try clear c18
              try clear c19
              try clear c20
              try clear c21
              try clear c22
              try clear c23
              try clear c24
              try clear c25
              try clear c26
              try clear c27
              try clear c28
              try clear c30
              try clear c32
              try clear c32b0
              try clear c32b1
              try clear c34
              try clear c34b0
              try clear c36
              try clear c36b0
              try clear c36b1
              try clear c37
              try clear c37b0
              try clear c37b1
              try clear c37b2
              try clear c38
              try clear c38b0
              try clear c38b1
              try clear c38b2
              try clear c39
              try clear c39b0
              try clear c40
              try clear c40b0
              try clear c41
              try clear c41b0
              try clear c42
              try clear c42b0
              try clear c43
              try clear c43b0
              try clear c44
              try clear c44b0
              try clear c45
              try clear c45b0
              try clear c46
              try clear c46b0
              try clear p2
              obtain ⟨kq, x156_30, rfl, HA, HJ30, HB⟩ := hcut
              cases kq with
              | zero => exact absurd HA.out (by simp [wardenlaw02_AluAsks.j2])
              | succ kj30 =>
                have H := HA.out
                clear HA
                simp only [wardenlaw02_AluAsks.j2] at H
                by_cases c47 : x156_30 = true
                · subst c47
                  have H1 : (some false) = some r := by rw [if_pos rfl] at H; exact H
                  clear H
                  have H := H1
                  clear H1
                  obtain rfl := Option.some.inj H
                  go_wp2
                  go_ret
                  exact ⟨by first | rfl | (simp [errW_none, errW_some] <;> rfl) | (simp [*, errW_none, errW_some] <;> rfl), by repeat (first | (with_reducible first | exact HB.out | apply below_alloc | apply pw_below_drewN | apply below_drew1) | exact HB.out)⟩
                · replace c47 := Bool.eq_false_iff.mpr c47
                  subst c47
                  have H1 : ((alu_Asks.f a0 a1 a2 a3).bind fun bt125 => ((alu_Turned.f a0).bind fun bt127 => ((alu_Other.f a0).bind fun bt129 => (if bt127.2 = true then ((alu_Asks.f bt127.1 a1 a3 a2).bind fun bt131 => ((alu_Turned.f bt127.1).bind fun bt133 => (if bt125.2 = 0 then (if (bt131.1 != bt125.1) = true then (some false) else (if bt133.1 = a0 then (wardenlaw02_AluAsks.j3 kj30 a0 a1 a2 a3 bt125.1 bt125.2 bt129.1 bt129.2) else (some false))) else (some false)))) else (wardenlaw02_AluAsks.j3 kj30 a0 a1 a2 a3 bt125.1 bt125.2 bt129.1 bt129.2))))) = some r := by rw [if_neg (show ¬ (false = true) by decide)] at H; exact H
                  clear H
                  have H := H1
                  clear H1
                  replace H := Option.bind_eq_some_iff.mp H
                  obtain ⟨⟨t125, t126⟩, A480, H⟩ := H
                  replace H : ((alu_Turned.f a0).bind fun bt127 => ((alu_Other.f a0).bind fun bt129 => (if bt127.2 = true then ((alu_Asks.f bt127.1 a1 a3 a2).bind fun bt131 => ((alu_Turned.f bt127.1).bind fun bt133 => (if t126 = 0 then (if (bt131.1 != t125) = true then (some false) else (if bt133.1 = a0 then (wardenlaw02_AluAsks.j3 kj30 a0 a1 a2 a3 t125 t126 bt129.1 bt129.2) else (some false))) else (some false)))) else (wardenlaw02_AluAsks.j3 kj30 a0 a1 a2 a3 t125 t126 bt129.1 bt129.2)))) = some r := H
                  have A48 := Aside0.mk A480
                  clear A480
                  replace H := Option.bind_eq_some_iff.mp H
                  obtain ⟨⟨t127, t128⟩, A490, H⟩ := H
                  replace H : ((alu_Other.f a0).bind fun bt129 => (if t128 = true then ((alu_Asks.f t127 a1 a3 a2).bind fun bt131 => ((alu_Turned.f t127).bind fun bt133 => (if t126 = 0 then (if (bt131.1 != t125) = true then (some false) else (if bt133.1 = a0 then (wardenlaw02_AluAsks.j3 kj30 a0 a1 a2 a3 t125 t126 bt129.1 bt129.2) else (some false))) else (some false)))) else (wardenlaw02_AluAsks.j3 kj30 a0 a1 a2 a3 t125 t126 bt129.1 bt129.2))) = some r := H
                  have A49 := Aside0.mk A490
                  clear A490
                  replace H := Option.bind_eq_some_iff.mp H
                  obtain ⟨⟨t129, t130⟩, A500, H⟩ := H
                  replace H : (if t128 = true then ((alu_Asks.f t127 a1 a3 a2).bind fun bt131 => ((alu_Turned.f t127).bind fun bt133 => (if t126 = 0 then (if (bt131.1 != t125) = true then (some false) else (if bt133.1 = a0 then (wardenlaw02_AluAsks.j3 kj30 a0 a1 a2 a3 t125 t126 t129 t130) else (some false))) else (some false)))) else (wardenlaw02_AluAsks.j3 kj30 a0 a1 a2 a3 t125 t126 t129 t130)) = some r := H
                  have A50 := Aside0.mk A500
                  clear A500
                  have HC51 := Aside0.mk H
                  clear H
                  go_upto_if 175 with (first | ((with_reducible refine gate_callee (f := 14) rfl ?_); refine goesL_ (some 162) rfl rfl Try.func14 (by kernel_rfl) rfl #[.int .u8 a0, .bool a1, .int .u64 a2, .int .u64 a3] rfl (by (try simp only [List.map_toArray, List.map_cons, List.map_nil]); first | done | rfl | (simp only [List.length_drop, List.length_take]; rfl)) ?_; (with_reducible refine (alu_Asks.calls a0 a1 a2 a3 t125 t126 _ A48.out).mono ?_); rintro e w52 ⟨rfl, hb⟩; refine ⟨_, rfl, ?_⟩; have n0_ := Aside0.mk (below_step (by repeat (first | (with_reducible first | exact HB.out | apply below_alloc | apply pw_below_drewN | apply below_drew1) | exact HB.out)) hb); clear HB; have HB := n0_; clear n0_; (try clear hb); (try clear hb2); (try clear hk); (try clear hi)) | ((with_reducible refine gate_callee (f := 27) rfl ?_); refine goesL_ (some 167) rfl rfl Try.func27 (by kernel_rfl) rfl #[.int .u8 a0] rfl (by (try simp only [List.map_toArray, List.map_cons, List.map_nil]); first | done | rfl | (simp only [List.length_drop, List.length_take]; rfl)) ?_; (with_reducible refine (alu_Turned.calls a0 t127 t128 _ A49.out).mono ?_); rintro e w53 ⟨rfl, hb⟩; refine ⟨_, rfl, ?_⟩; have n0_ := Aside0.mk (below_step (by repeat (first | (with_reducible first | exact HB.out | apply below_alloc | apply pw_below_drewN | apply below_drew1) | exact HB.out)) hb); clear HB; have HB := n0_; clear n0_; (try clear hb); (try clear hb2); (try clear hk); (try clear hi)) | ((with_reducible refine gate_callee (f := 29) rfl ?_); refine goesL_ (some 172) rfl rfl Try.func29 (by kernel_rfl) rfl #[.int .u8 a0] rfl (by (try simp only [List.map_toArray, List.map_cons, List.map_nil]); first | done | rfl | (simp only [List.length_drop, List.length_take]; rfl)) ?_; (with_reducible refine (alu_Other.calls a0 t129 t130 _ A50.out).mono ?_); rintro e w54 ⟨rfl, hb⟩; refine ⟨_, rfl, ?_⟩; have n0_ := Aside0.mk (below_step (by repeat (first | (with_reducible first | exact HB.out | apply below_alloc | apply pw_below_drewN | apply below_drew1) | exact HB.out)) hb); clear HB; have HB := n0_; clear n0_; (try clear hb); (try clear hb2); (try clear hk); (try clear hi)))
                  (try simp only [Act.put, List.setIfInBounds_toArray, List.set_cons_zero, List.set_cons_succ])
                  go_cut [] (fun wc => ∃ (kq : Nat), Aside0 (wardenlaw02_AluAsks.j3 kq a0 a1 a2 a3 t125 t126 t129 t130 = some r) ∧ Aside0 (kq ≤ kj30) ∧ Aside0 (Below w.heap.size w wc))
                  case first =>
                    have H := HC51.out
                    clear HC51
                    by_cases c55 : t128 = true
                    · subst c55
                      have H1 : ((alu_Asks.f t127 a1 a3 a2).bind fun bt131 => ((alu_Turned.f t127).bind fun bt133 => (if t126 = 0 then (if (bt131.1 != t125) = true then (some false) else (if bt133.1 = a0 then (wardenlaw02_AluAsks.j3 kj30 a0 a1 a2 a3 t125 t126 t129 t130) else (some false))) else (some false)))) = some r := by rw [if_pos rfl] at H; exact H
                      clear H
                      have H := H1
                      clear H1
                      replace H := Option.bind_eq_some_iff.mp H
                      obtain ⟨⟨t131, t132⟩, A560, H⟩ := H
                      replace H : ((alu_Turned.f t127).bind fun bt133 => (if t126 = 0 then (if (t131 != t125) = true then (some false) else (if bt133.1 = a0 then (wardenlaw02_AluAsks.j3 kj30 a0 a1 a2 a3 t125 t126 t129 t130) else (some false))) else (some false))) = some r := H
                      have A56 := Aside0.mk A560
                      clear A560
                      replace H := Option.bind_eq_some_iff.mp H
                      obtain ⟨⟨t133, t134⟩, A570, H⟩ := H
                      replace H : (if t126 = 0 then (if (t131 != t125) = true then (some false) else (if t133 = a0 then (wardenlaw02_AluAsks.j3 kj30 a0 a1 a2 a3 t125 t126 t129 t130) else (some false))) else (some false)) = some r := H
                      have A57 := Aside0.mk A570
                      clear A570
                      by_cases c58 : t126 = 0
                      · rw [if_pos c58] at H
                        have c58b0 : (t126 == 0) = true := beq_iff_eq.mpr c58
                        have c58b1 : (t126 != 0) = false := bne_eq_false_iff_eq.mpr c58
                        clear c58
                        (first | rw [c58b0] | (simp only [i64_w, i32_w]; rw [c58b0]) | skip)
                        by_cases c59 : (t131 != t125) = true
                        · rw [if_pos c59] at H
                          have c59b0 : (t131 != t125) = true := c59
                          (try (have c59b1 : decide (t131 = t125) = false := by simpa using c59))
                          (try (have c59b2 : (t131 == t125) = false := by simpa using c59))
                          (try (have c59b3 : ¬ (t131 = t125) := by simpa using c59))
                          clear c59
                          obtain rfl := Option.some.inj H
                          go_wp2_with (first | ((with_reducible refine gate_callee (f := 14) rfl ?_); refine goesL_ (some 181) rfl rfl Try.func14 (by kernel_rfl) rfl #[.int .u8 t127, .bool a1, .int .u64 a3, .int .u64 a2] rfl (by (try simp only [List.map_toArray, List.map_cons, List.map_nil]); first | done | rfl | (simp only [List.length_drop, List.length_take]; rfl)) ?_; (with_reducible refine (alu_Asks.calls t127 a1 a3 a2 t131 t132 _ A56.out).mono ?_); rintro e w60 ⟨rfl, hb⟩; refine ⟨_, rfl, ?_⟩; have n0_ := Aside0.mk (below_step (by repeat (first | (with_reducible first | exact HB.out | apply below_alloc | apply pw_below_drewN | apply below_drew1) | exact HB.out)) hb); clear HB; have HB := n0_; clear n0_; (try clear hb); (try clear hb2); (try clear hk); (try clear hi)) | ((with_reducible refine gate_callee (f := 27) rfl ?_); refine goesL_ (some 186) rfl rfl Try.func27 (by kernel_rfl) rfl #[.int .u8 t127] rfl (by (try simp only [List.map_toArray, List.map_cons, List.map_nil]); first | done | rfl | (simp only [List.length_drop, List.length_take]; rfl)) ?_; (with_reducible refine (alu_Turned.calls t127 t133 t134 _ A57.out).mono ?_); rintro e w61 ⟨rfl, hb⟩; refine ⟨_, rfl, ?_⟩; have n0_ := Aside0.mk (below_step (by repeat (first | (with_reducible first | exact HB.out | apply below_alloc | apply pw_below_drewN | apply below_drew1) | exact HB.out)) hb); clear HB; have HB := n0_; clear n0_; (try clear hb); (try clear hb2); (try clear hk); (try clear hi)))
                          go_ret
                          exact ⟨by first | rfl | (simp [errW_none, errW_some] <;> rfl) | (simp [*, errW_none, errW_some] <;> rfl), by repeat (first | (with_reducible first | exact HB.out | apply below_alloc | apply pw_below_drewN | apply below_drew1) | exact HB.out)⟩
                        · rw [if_neg c59] at H
                          have c59b0 : (t131 != t125) = false := by simpa using c59
                          (try (have c59b1 : decide (t131 = t125) = true := by simpa using c59))
                          (try (have c59b2 : (t131 == t125) = true := by simpa using c59))
                          clear c59
                          by_cases c62 : t133 = a0
                          · rw [if_pos c62] at H
                            have c62b0 : (t133 == a0) = true := beq_iff_eq.mpr c62
                            have c62b1 : (t133 != a0) = false := bne_eq_false_iff_eq.mpr c62
                            clear c62
                            have H' := Aside0.mk H
                            clear H
                            go_wp2_with (first | ((with_reducible refine gate_callee (f := 14) rfl ?_); refine goesL_ (some 181) rfl rfl Try.func14 (by kernel_rfl) rfl #[.int .u8 t127, .bool a1, .int .u64 a3, .int .u64 a2] rfl (by (try simp only [List.map_toArray, List.map_cons, List.map_nil]); first | done | rfl | (simp only [List.length_drop, List.length_take]; rfl)) ?_; (with_reducible refine (alu_Asks.calls t127 a1 a3 a2 t131 t132 _ A56.out).mono ?_); rintro e w63 ⟨rfl, hb⟩; refine ⟨_, rfl, ?_⟩; have n0_ := Aside0.mk (below_step (by repeat (first | (with_reducible first | exact HB.out | apply below_alloc | apply pw_below_drewN | apply below_drew1) | exact HB.out)) hb); clear HB; have HB := n0_; clear n0_; (try clear hb); (try clear hb2); (try clear hk); (try clear hi)) | ((with_reducible refine gate_callee (f := 27) rfl ?_); refine goesL_ (some 186) rfl rfl Try.func27 (by kernel_rfl) rfl #[.int .u8 t127] rfl (by (try simp only [List.map_toArray, List.map_cons, List.map_nil]); first | done | rfl | (simp only [List.length_drop, List.length_take]; rfl)) ?_; (with_reducible refine (alu_Turned.calls t127 t133 t134 _ A57.out).mono ?_); rintro e w64 ⟨rfl, hb⟩; refine ⟨_, rfl, ?_⟩; have n0_ := Aside0.mk (below_step (by repeat (first | (with_reducible first | exact HB.out | apply below_alloc | apply pw_below_drewN | apply below_drew1) | exact HB.out)) hb); clear HB; have HB := n0_; clear n0_; (try clear hb); (try clear hb2); (try clear hk); (try clear hi)))
                            go_meet
                            case rel => exact ⟨_, H', ⟨by have := HJ9.out; have := HJ28.out; have := HJ30.out; first | omega | exact Nat.le_refl _⟩, ⟨by repeat (first | (with_reducible first | exact HB.out | apply below_alloc | apply pw_below_drewN | apply below_drew1) | exact HB.out)⟩⟩
                          · rw [if_neg c62] at H
                            have c62b0 : (t133 == a0) = false := beq_eq_false_iff_ne.mpr c62
                            have c62b1 : (t133 != a0) = true := bne_iff_ne.mpr c62
                            obtain rfl := Option.some.inj H
                            go_wp2_with (first | ((with_reducible refine gate_callee (f := 14) rfl ?_); refine goesL_ (some 181) rfl rfl Try.func14 (by kernel_rfl) rfl #[.int .u8 t127, .bool a1, .int .u64 a3, .int .u64 a2] rfl (by (try simp only [List.map_toArray, List.map_cons, List.map_nil]); first | done | rfl | (simp only [List.length_drop, List.length_take]; rfl)) ?_; (with_reducible refine (alu_Asks.calls t127 a1 a3 a2 t131 t132 _ A56.out).mono ?_); rintro e w65 ⟨rfl, hb⟩; refine ⟨_, rfl, ?_⟩; have n0_ := Aside0.mk (below_step (by repeat (first | (with_reducible first | exact HB.out | apply below_alloc | apply pw_below_drewN | apply below_drew1) | exact HB.out)) hb); clear HB; have HB := n0_; clear n0_; (try clear hb); (try clear hb2); (try clear hk); (try clear hi)) | ((with_reducible refine gate_callee (f := 27) rfl ?_); refine goesL_ (some 186) rfl rfl Try.func27 (by kernel_rfl) rfl #[.int .u8 t127] rfl (by (try simp only [List.map_toArray, List.map_cons, List.map_nil]); first | done | rfl | (simp only [List.length_drop, List.length_take]; rfl)) ?_; (with_reducible refine (alu_Turned.calls t127 t133 t134 _ A57.out).mono ?_); rintro e w66 ⟨rfl, hb⟩; refine ⟨_, rfl, ?_⟩; have n0_ := Aside0.mk (below_step (by repeat (first | (with_reducible first | exact HB.out | apply below_alloc | apply pw_below_drewN | apply below_drew1) | exact HB.out)) hb); clear HB; have HB := n0_; clear n0_; (try clear hb); (try clear hb2); (try clear hk); (try clear hi)))
                            go_ret
                            exact ⟨by first | rfl | (simp [errW_none, errW_some] <;> rfl) | (simp [*, errW_none, errW_some] <;> rfl), by repeat (first | (with_reducible first | exact HB.out | apply below_alloc | apply pw_below_drewN | apply below_drew1) | exact HB.out)⟩
                      · rw [if_neg c58] at H
                        have c58b0 : (t126 == 0) = false := beq_eq_false_iff_ne.mpr c58
                        have c58b1 : (t126 != 0) = true := bne_iff_ne.mpr c58
                        (first | rw [c58b0] | (simp only [i64_w, i32_w]; rw [c58b0]) | skip)
                        obtain rfl := Option.some.inj H
                        go_wp2_with (first | ((with_reducible refine gate_callee (f := 14) rfl ?_); refine goesL_ (some 181) rfl rfl Try.func14 (by kernel_rfl) rfl #[.int .u8 t127, .bool a1, .int .u64 a3, .int .u64 a2] rfl (by (try simp only [List.map_toArray, List.map_cons, List.map_nil]); first | done | rfl | (simp only [List.length_drop, List.length_take]; rfl)) ?_; (with_reducible refine (alu_Asks.calls t127 a1 a3 a2 t131 t132 _ A56.out).mono ?_); rintro e w67 ⟨rfl, hb⟩; refine ⟨_, rfl, ?_⟩; have n0_ := Aside0.mk (below_step (by repeat (first | (with_reducible first | exact HB.out | apply below_alloc | apply pw_below_drewN | apply below_drew1) | exact HB.out)) hb); clear HB; have HB := n0_; clear n0_; (try clear hb); (try clear hb2); (try clear hk); (try clear hi)) | ((with_reducible refine gate_callee (f := 27) rfl ?_); refine goesL_ (some 186) rfl rfl Try.func27 (by kernel_rfl) rfl #[.int .u8 t127] rfl (by (try simp only [List.map_toArray, List.map_cons, List.map_nil]); first | done | rfl | (simp only [List.length_drop, List.length_take]; rfl)) ?_; (with_reducible refine (alu_Turned.calls t127 t133 t134 _ A57.out).mono ?_); rintro e w68 ⟨rfl, hb⟩; refine ⟨_, rfl, ?_⟩; have n0_ := Aside0.mk (below_step (by repeat (first | (with_reducible first | exact HB.out | apply below_alloc | apply pw_below_drewN | apply below_drew1) | exact HB.out)) hb); clear HB; have HB := n0_; clear n0_; (try clear hb); (try clear hb2); (try clear hk); (try clear hi)))
                        go_ret
                        exact ⟨by first | rfl | (simp [errW_none, errW_some] <;> rfl) | (simp [*, errW_none, errW_some] <;> rfl), by repeat (first | (with_reducible first | exact HB.out | apply below_alloc | apply pw_below_drewN | apply below_drew1) | exact HB.out)⟩
                    · replace c55 := Bool.eq_false_iff.mpr c55
                      subst c55
                      have H1 : (wardenlaw02_AluAsks.j3 kj30 a0 a1 a2 a3 t125 t126 t129 t130) = some r := by rw [if_neg (show ¬ (false = true) by decide)] at H; exact H
                      clear H
                      have H := H1
                      clear H1
                      have H' := Aside0.mk H
                      clear H
                      go_wp2
                      go_meet
                      case rel => exact ⟨_, H', ⟨by have := HJ9.out; have := HJ28.out; have := HJ30.out; first | omega | exact Nat.le_refl _⟩, ⟨by repeat (first | (with_reducible first | exact HB.out | apply below_alloc | apply pw_below_drewN | apply below_drew1) | exact HB.out)⟩⟩
                  case rest =>
                    clear HC51
                    try clear c1
                    try clear c2
                    try clear p2
                    try clear c3
                    try clear c4
                    try clear c5
                    try clear c6
                    try clear c10
                    try clear c14
                    try clear c16
                    try clear c17
                    try clear c18
                    try clear c19
                    try clear c20
                    try clear c21
                    try clear c22
                    try clear c23
                    try clear c24
                    try clear c25
                    try clear c26
                    try clear c27
                    try clear c28
                    try clear c29
                    try clear c30
                    try clear c32
                    try clear c32b0
                    try clear c32b1
                    try clear c34
                    try clear c34b0
                    try clear c36
                    try clear c36b0
                    try clear c36b1
                    try clear c37
                    try clear c37b0
                    try clear c37b1
                    try clear c37b2
                    try clear c38
                    try clear c38b0
                    try clear c38b1
                    try clear c38b2
                    try clear c39
                    try clear c39b0
                    try clear c40
                    try clear c40b0
                    try clear c41
                    try clear c41b0
                    try clear c42
                    try clear c42b0
                    try clear c43
                    try clear c43b0
                    try clear c44
                    try clear c44b0
                    try clear c45
                    try clear c45b0
                    try clear c46
                    try clear c46b0
                    try clear c47
                    try clear c55
                    try clear c58
                    try clear c58b0
                    try clear c58b1
                    try clear c59
                    try clear c59b0
                    try clear c59b1
                    try clear c59b2
                    try clear c62
                    try clear c62b0
                    try clear c62b1
                    try clear p2
                    obtain ⟨kq, HA, HJ50, HB⟩ := hcut
                    cases kq with
                    | zero => exact absurd HA.out (by simp [wardenlaw02_AluAsks.j3])
                    | succ kj50 =>
                      have H := HA.out
                      clear HA
                      simp only [wardenlaw02_AluAsks.j3] at H
                      by_cases c69 : t130 = true
                      · subst c69
                        have H1 : ((alu_Asks.f t129 a1 a2 a3).bind fun bt135 => ((alu_Other.f t129).bind fun bt137 => (if t126 = 0 then (if (bt135.1 != t125) = true then (if bt137.1 = a0 then ((wardenlaw02_alive.f).bind fun t139 => (some t139)) else (some false)) else (some false)) else (some false)))) = some r := by rw [if_pos rfl] at H; exact H
                        clear H
                        have H := H1
                        clear H1
                        replace H := Option.bind_eq_some_iff.mp H
                        obtain ⟨⟨t135, t136⟩, A700, H⟩ := H
                        replace H : ((alu_Other.f t129).bind fun bt137 => (if t126 = 0 then (if (t135 != t125) = true then (if bt137.1 = a0 then ((wardenlaw02_alive.f).bind fun t139 => (some t139)) else (some false)) else (some false)) else (some false))) = some r := H
                        have A70 := Aside0.mk A700
                        clear A700
                        replace H := Option.bind_eq_some_iff.mp H
                        obtain ⟨⟨t137, t138⟩, A710, H⟩ := H
                        replace H : (if t126 = 0 then (if (t135 != t125) = true then (if t137 = a0 then ((wardenlaw02_alive.f).bind fun t139 => (some t139)) else (some false)) else (some false)) else (some false)) = some r := H
                        have A71 := Aside0.mk A710
                        clear A710
                        by_cases c72 : t126 = 0
                        · rw [if_pos c72] at H
                          have c72b0 : (t126 == 0) = true := beq_iff_eq.mpr c72
                          have c72b1 : (t126 != 0) = false := bne_eq_false_iff_eq.mpr c72
                          clear c72
                          by_cases c73 : (t135 != t125) = true
                          · rw [if_pos c73] at H
                            have c73b0 : (t135 != t125) = true := c73
                            (try (have c73b1 : decide (t135 = t125) = false := by simpa using c73))
                            (try (have c73b2 : (t135 == t125) = false := by simpa using c73))
                            (try (have c73b3 : ¬ (t135 = t125) := by simpa using c73))
                            clear c73
                            by_cases c74 : t137 = a0
                            · rw [if_pos c74] at H
                              have c74b0 : (t137 == a0) = true := beq_iff_eq.mpr c74
                              have c74b1 : (t137 != a0) = false := bne_eq_false_iff_eq.mpr c74
                              clear c74
                              replace H := Option.bind_eq_some_iff.mp H
                              obtain ⟨t139, A750, H⟩ := H
                              replace H : (some t139) = some r := H
                              have A75 := Aside0.mk A750
                              clear A750
                              obtain rfl := Option.some.inj H
                              go_wp2_with (first | ((with_reducible refine gate_callee (f := 14) rfl ?_); refine goesL_ (some 207) rfl rfl Try.func14 (by kernel_rfl) rfl #[.int .u8 t129, .bool a1, .int .u64 a2, .int .u64 a3] rfl (by (try simp only [List.map_toArray, List.map_cons, List.map_nil]); first | done | rfl | (simp only [List.length_drop, List.length_take]; rfl)) ?_; (with_reducible refine (alu_Asks.calls t129 a1 a2 a3 t135 t136 _ A70.out).mono ?_); rintro e w76 ⟨rfl, hb⟩; refine ⟨_, rfl, ?_⟩; have n0_ := Aside0.mk (below_step (by repeat (first | (with_reducible first | exact HB.out | apply below_alloc | apply pw_below_drewN | apply below_drew1) | exact HB.out)) hb); clear HB; have HB := n0_; clear n0_; (try clear hb); (try clear hb2); (try clear hk); (try clear hi)) | ((with_reducible refine gate_callee (f := 29) rfl ?_); refine goesL_ (some 212) rfl rfl Try.func29 (by kernel_rfl) rfl #[.int .u8 t129] rfl (by (try simp only [List.map_toArray, List.map_cons, List.map_nil]); first | done | rfl | (simp only [List.length_drop, List.length_take]; rfl)) ?_; (with_reducible refine (alu_Other.calls t129 t137 t138 _ A71.out).mono ?_); rintro e w77 ⟨rfl, hb⟩; refine ⟨_, rfl, ?_⟩; have n0_ := Aside0.mk (below_step (by repeat (first | (with_reducible first | exact HB.out | apply below_alloc | apply pw_below_drewN | apply below_drew1) | exact HB.out)) hb); clear HB; have HB := n0_; clear n0_; (try clear hb); (try clear hb2); (try clear hk); (try clear hi)) | (go_at_call 12; (with_reducible refine (wardenlaw02_alive.calls  t139 _ A75.out).mono ?_); rintro e w78 ⟨rfl, hb⟩; have n0_ := Aside0.mk (below_step (by repeat (first | (with_reducible first | exact HB.out | apply below_alloc | apply pw_below_drewN | apply below_drew1) | exact HB.out)) hb); clear HB; have HB := n0_; clear n0_; (try clear hb); (try clear hb2); (try clear hk); (try clear hi)))
                              go_ret
                              exact ⟨by first | rfl | (simp [errW_none, errW_some] <;> rfl) | (simp [*, errW_none, errW_some] <;> rfl), by repeat (first | (with_reducible first | exact HB.out | apply below_alloc | apply pw_below_drewN | apply below_drew1) | exact HB.out)⟩
                            · rw [if_neg c74] at H
                              have c74b0 : (t137 == a0) = false := beq_eq_false_iff_ne.mpr c74
                              have c74b1 : (t137 != a0) = true := bne_iff_ne.mpr c74
                              obtain rfl := Option.some.inj H
                              go_wp2_with (first | ((with_reducible refine gate_callee (f := 14) rfl ?_); refine goesL_ (some 207) rfl rfl Try.func14 (by kernel_rfl) rfl #[.int .u8 t129, .bool a1, .int .u64 a2, .int .u64 a3] rfl (by (try simp only [List.map_toArray, List.map_cons, List.map_nil]); first | done | rfl | (simp only [List.length_drop, List.length_take]; rfl)) ?_; (with_reducible refine (alu_Asks.calls t129 a1 a2 a3 t135 t136 _ A70.out).mono ?_); rintro e w79 ⟨rfl, hb⟩; refine ⟨_, rfl, ?_⟩; have n0_ := Aside0.mk (below_step (by repeat (first | (with_reducible first | exact HB.out | apply below_alloc | apply pw_below_drewN | apply below_drew1) | exact HB.out)) hb); clear HB; have HB := n0_; clear n0_; (try clear hb); (try clear hb2); (try clear hk); (try clear hi)) | ((with_reducible refine gate_callee (f := 29) rfl ?_); refine goesL_ (some 212) rfl rfl Try.func29 (by kernel_rfl) rfl #[.int .u8 t129] rfl (by (try simp only [List.map_toArray, List.map_cons, List.map_nil]); first | done | rfl | (simp only [List.length_drop, List.length_take]; rfl)) ?_; (with_reducible refine (alu_Other.calls t129 t137 t138 _ A71.out).mono ?_); rintro e w80 ⟨rfl, hb⟩; refine ⟨_, rfl, ?_⟩; have n0_ := Aside0.mk (below_step (by repeat (first | (with_reducible first | exact HB.out | apply below_alloc | apply pw_below_drewN | apply below_drew1) | exact HB.out)) hb); clear HB; have HB := n0_; clear n0_; (try clear hb); (try clear hb2); (try clear hk); (try clear hi)))
                              go_ret
                              exact ⟨by first | rfl | (simp [errW_none, errW_some] <;> rfl) | (simp [*, errW_none, errW_some] <;> rfl), by repeat (first | (with_reducible first | exact HB.out | apply below_alloc | apply pw_below_drewN | apply below_drew1) | exact HB.out)⟩
                          · rw [if_neg c73] at H
                            have c73b0 : (t135 != t125) = false := by simpa using c73
                            (try (have c73b1 : decide (t135 = t125) = true := by simpa using c73))
                            (try (have c73b2 : (t135 == t125) = true := by simpa using c73))
                            clear c73
                            obtain rfl := Option.some.inj H
                            go_wp2_with (first | ((with_reducible refine gate_callee (f := 14) rfl ?_); refine goesL_ (some 207) rfl rfl Try.func14 (by kernel_rfl) rfl #[.int .u8 t129, .bool a1, .int .u64 a2, .int .u64 a3] rfl (by (try simp only [List.map_toArray, List.map_cons, List.map_nil]); first | done | rfl | (simp only [List.length_drop, List.length_take]; rfl)) ?_; (with_reducible refine (alu_Asks.calls t129 a1 a2 a3 t135 t136 _ A70.out).mono ?_); rintro e w81 ⟨rfl, hb⟩; refine ⟨_, rfl, ?_⟩; have n0_ := Aside0.mk (below_step (by repeat (first | (with_reducible first | exact HB.out | apply below_alloc | apply pw_below_drewN | apply below_drew1) | exact HB.out)) hb); clear HB; have HB := n0_; clear n0_; (try clear hb); (try clear hb2); (try clear hk); (try clear hi)) | ((with_reducible refine gate_callee (f := 29) rfl ?_); refine goesL_ (some 212) rfl rfl Try.func29 (by kernel_rfl) rfl #[.int .u8 t129] rfl (by (try simp only [List.map_toArray, List.map_cons, List.map_nil]); first | done | rfl | (simp only [List.length_drop, List.length_take]; rfl)) ?_; (with_reducible refine (alu_Other.calls t129 t137 t138 _ A71.out).mono ?_); rintro e w82 ⟨rfl, hb⟩; refine ⟨_, rfl, ?_⟩; have n0_ := Aside0.mk (below_step (by repeat (first | (with_reducible first | exact HB.out | apply below_alloc | apply pw_below_drewN | apply below_drew1) | exact HB.out)) hb); clear HB; have HB := n0_; clear n0_; (try clear hb); (try clear hb2); (try clear hk); (try clear hi)))
                            go_ret
                            exact ⟨by first | rfl | (simp [errW_none, errW_some] <;> rfl) | (simp [*, errW_none, errW_some] <;> rfl), by repeat (first | (with_reducible first | exact HB.out | apply below_alloc | apply pw_below_drewN | apply below_drew1) | exact HB.out)⟩
                        · rw [if_neg c72] at H
                          have c72b0 : (t126 == 0) = false := beq_eq_false_iff_ne.mpr c72
                          have c72b1 : (t126 != 0) = true := bne_iff_ne.mpr c72
                          obtain rfl := Option.some.inj H
                          go_wp2_with (first | ((with_reducible refine gate_callee (f := 14) rfl ?_); refine goesL_ (some 207) rfl rfl Try.func14 (by kernel_rfl) rfl #[.int .u8 t129, .bool a1, .int .u64 a2, .int .u64 a3] rfl (by (try simp only [List.map_toArray, List.map_cons, List.map_nil]); first | done | rfl | (simp only [List.length_drop, List.length_take]; rfl)) ?_; (with_reducible refine (alu_Asks.calls t129 a1 a2 a3 t135 t136 _ A70.out).mono ?_); rintro e w83 ⟨rfl, hb⟩; refine ⟨_, rfl, ?_⟩; have n0_ := Aside0.mk (below_step (by repeat (first | (with_reducible first | exact HB.out | apply below_alloc | apply pw_below_drewN | apply below_drew1) | exact HB.out)) hb); clear HB; have HB := n0_; clear n0_; (try clear hb); (try clear hb2); (try clear hk); (try clear hi)) | ((with_reducible refine gate_callee (f := 29) rfl ?_); refine goesL_ (some 212) rfl rfl Try.func29 (by kernel_rfl) rfl #[.int .u8 t129] rfl (by (try simp only [List.map_toArray, List.map_cons, List.map_nil]); first | done | rfl | (simp only [List.length_drop, List.length_take]; rfl)) ?_; (with_reducible refine (alu_Other.calls t129 t137 t138 _ A71.out).mono ?_); rintro e w84 ⟨rfl, hb⟩; refine ⟨_, rfl, ?_⟩; have n0_ := Aside0.mk (below_step (by repeat (first | (with_reducible first | exact HB.out | apply below_alloc | apply pw_below_drewN | apply below_drew1) | exact HB.out)) hb); clear HB; have HB := n0_; clear n0_; (try clear hb); (try clear hb2); (try clear hk); (try clear hi)))
                          go_ret
                          exact ⟨by first | rfl | (simp [errW_none, errW_some] <;> rfl) | (simp [*, errW_none, errW_some] <;> rfl), by repeat (first | (with_reducible first | exact HB.out | apply below_alloc | apply pw_below_drewN | apply below_drew1) | exact HB.out)⟩
                      · replace c69 := Bool.eq_false_iff.mpr c69
                        subst c69
                        have H1 : ((wardenlaw02_alive.f).bind fun t140 => (some t140)) = some r := by rw [if_neg (show ¬ (false = true) by decide)] at H; exact H
                        clear H
                        have H := H1
                        clear H1
                        replace H := Option.bind_eq_some_iff.mp H
                        obtain ⟨t140, A850, H⟩ := H
                        replace H : (some t140) = some r := H
                        have A85 := Aside0.mk A850
                        clear A850
                        obtain rfl := Option.some.inj H
                        go_wp2_with (first | ((with_reducible refine gate_callee (f := 12) rfl ?_); refine goesL_ (some 230) rfl rfl Try.func12 (by kernel_rfl) rfl #[] rfl (by (try simp only [List.map_toArray, List.map_cons, List.map_nil]); first | done | rfl | (simp only [List.length_drop, List.length_take]; rfl)) ?_; (with_reducible refine (wardenlaw02_alive.calls  t140 _ A85.out).mono ?_); rintro e w86 ⟨rfl, hb⟩; refine ⟨_, rfl, ?_⟩; have n0_ := Aside0.mk (below_step (by repeat (first | (with_reducible first | exact HB.out | apply below_alloc | apply pw_below_drewN | apply below_drew1) | exact HB.out)) hb); clear HB; have HB := n0_; clear n0_; (try clear hb); (try clear hb2); (try clear hk); (try clear hi)))
                        go_ret
                        exact ⟨by first | rfl | (simp [errW_none, errW_some] <;> rfl) | (simp [*, errW_none, errW_some] <;> rfl), by repeat (first | (with_reducible first | exact HB.out | apply below_alloc | apply pw_below_drewN | apply below_drew1) | exact HB.out)⟩

/-- THE ONE PURE STATEMENT of wardenlaw02_AluAsks: yours. -/
def wardenlaw02_AluAsks.Pure : Prop := ∀ (a0 : Int) (a1 : Bool) (a2 : Int) (a3 : Int), (Lit.int .u8 a0).wf = true → (Lit.int .u64 a2).wf = true → (Lit.int .u64 a3).wf = true → ∃ k, wardenlaw02_AluAsks.f k a0 a1 a2 a3 = some true
theorem wardenlaw02_AluAsks.walk (P : wardenlaw02_AluAsks.Pure) (a0 : Int) (a1 : Bool) (a2 : Int) (a3 : Int) (w : World) (w0 : (Lit.int .u8 a0).wf = true) (w2 : (Lit.int .u64 a2).wf = true) (w3 : (Lit.int .u64 a3).wf = true) :
    Calls Try.prog 10 #[.int .u8 a0, .bool a1, .int .u64 a2, .int .u64 a3] w fun e w' => e = .returned (.bool true) ∧ Below w.heap.size w w' := by
  obtain ⟨k, h⟩ := P a0 a1 a2 a3 w0 w2 w3
  refine (wardenlaw02_AluAsks.calls k a0 a1 a2 a3 true w h).mono ?_
  rintro e w' ⟨rfl, hd⟩
  exact ⟨rfl, hd⟩

end Go.Proofs.Ytdlgipoaimgbpaa.HAluAsks
