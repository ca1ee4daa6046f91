import Derived.Test.YtjhfhognacjipaaProg
import Derived.Test.YtjhfhognacjipaaMapsRange
import Derived.Test.YtjhfhognacjipaaLock
/-! Steps as the keys of a map. -/
namespace Go.Proofs.Ytjhfhognacjipaa
open Go.RowKit Go.Maps
set_option maxRecDepth 100000

theorem keyLits_int {P : Program} {t : TypeId} {q : IntKind} (d : Nat) (hu : P.underlying t = some (.int q)) {n : Int} (h : (Lit.int q n).wf = true) : P.keyLits (d + 1) t [.int q n] = some [.int q n] := by
  simp [Program.keyLits, hu, h]
theorem keyLits_bool {P : Program} {t : TypeId} (d : Nat) (hu : P.underlying t = some .bool) (b : Bool) : P.keyLits (d + 1) t [.bool b] = some [.bool b] := by
  simp [Program.keyLits, hu]

/-- A step as a key: not a giving one. -/
def stepKey (q : Int × Int) : Value := .agg #[.bool false, .int .i64 q.1, .int .i64 q.2]
def stepOk (q : Int × Int) : Prop := (Lit.int .i64 q.1).wf = true ∧ (Lit.int .i64 q.2).wf = true

theorem step_law : WideMaps.KeyLaw Try.prog 27 := deep_law_gate (by kernel_rfl) (of_decide_eq_true (by kernel_rfl)) (of_decide_eq_true (by kernel_rfl)) (by kernel_rfl) (by kernel_rfl)

theorem step_keyOf (q : Int × Int) (h : stepOk q) : ∃ l, keyOf Try.prog 27 (stepKey q) = some l := by
  have hk : Try.prog.keyType 27 = true := by kernel_rfl
  have hc : Try.prog.cellsOf 27 = 3 := by kernel_rfl
  have c3 : Try.prog.cellsOf 3 = 1 := by kernel_rfl
  have c4 : Try.prog.cellsOf 4 = 1 := by kernel_rfl
  have hrow : 27 < Try.prog.types.size := of_decide_eq_true (by kernel_rfl)
  have hf : (stepKey q).formed Try.prog 27 = true := by simp [stepKey, Value.formed, Try.underlying27, hc]
  obtain ⟨d, hd⟩ : ∃ d, Try.prog.types.size = d + 1 := ⟨Try.prog.types.size - 1, by omega⟩
  unfold keyOf
  rw [Try.underlying27]
  simp only [hk, hf, Bool.and_true, if_true]
  rw [hd]
  have e : (stepKey q).cells.toList = [.bool false, .int .i64 q.1, .int .i64 q.2] := rfl
  rw [e]
  have k0 := keyLits_bool (P := Try.prog) d Try.underlying4 false
  have k1 := keyLits_int (P := Try.prog) d Try.underlying3 h.1
  have k2 := keyLits_int (P := Try.prog) d Try.underlying3 h.2
  have : Try.prog.keyLits (d + 1 + 1) 27 [.bool false, .int .i64 q.1, .int .i64 q.2] = some [.bool false, .int .i64 q.1, .int .i64 q.2] := by
    unfold Program.keyLits
    simp [Try.underlying27, hc, c3, c4, k0, k1, k2]
  rw [this]
  exact ⟨_, rfl⟩

theorem step_mkey : MKey Try.prog 27 stepKey stepOk :=
  MKey.of_keyed (Keyed.of_law step_law) (fun {a b} h => by
    obtain ⟨a1, a2⟩ := a
    obtain ⟨b1, b2⟩ := b
    simpa [stepKey] using h) step_keyOf

end Go.Proofs.Ytjhfhognacjipaa
