import Derived.Test.YtcddpmiandgkjaaVal8
import Derived.Test.YtcddpmiandgkjaaGrowW
/-! The law ValueTells: what all ways share. -/
namespace Go.Proofs.Ytcddpmiandgkjaa
open Go.RowKit
set_option maxHeartbeats 2000000
set_option maxRecDepth 100000
set_option linter.unusedSimpArgs false

/-- A new variable of a document's value. -/
def NewV (N : Nat) (v : Value) (W : World) : Prop := ∃ b, N ≤ b ∧ v = .pointer (some ⟨b, 0, none⟩) ∧ Has W b 25 #[.int .u8 0, .int .u64 0, .int .i64 0, .int .i64 0, .int .i64 0, .int .u64 0]

/-- What the operations of 'x, y := Clean(v), Clean(w)' yield. -/
def CleanPhi (N : Nat) (A P B Q : Value) : Nat → Value → World → Prop
  | 0, v, _ => v = A
  | 1, v, _ => v = P
  | 2, v, _ => v = B
  | 3, v, _ => v = Q
  | 4, v, W => NewV N v W
  | 5, v, W => NewV N v W
  | _, _, _ => True
def newBlk : Nat → Value → Option Nat
  | 4, .pointer (some a) => some a.block
  | 5, .pointer (some a) => some a.block
  | _, _ => none

theorem NewV.lasts (N : Nat) : LastsW (NewV N) := by
  rintro v W W' hB ⟨b, hN, rfl, h⟩
  exact ⟨b, hN, rfl, h.below hB h.lt⟩

theorem cleanPhi_lasts (N : Nat) (A P B Q : Value) : ∀ i, LastsW (CleanPhi N A P B Q i)
  | 0 => fun _ _ _ _ h => h
  | 1 => fun _ _ _ _ h => h
  | 2 => fun _ _ _ _ h => h
  | 3 => fun _ _ _ _ h => h
  | 4 => NewV.lasts N
  | 5 => NewV.lasts N
  | _ + 6 => fun _ _ _ _ _ => trivial

theorem newBlk_lt (N : Nat) (A P B Q : Value) (i : Nat) (v : Value) (W : World) (b : Nat) (h : CleanPhi N A P B Q i v W) (hb : newBlk i v = some b) : b < W.heap.size := by
  match i, h, hb with
  | 0, _, hb => simp [newBlk] at hb
  | 1, _, hb => simp [newBlk] at hb
  | 2, _, hb => simp [newBlk] at hb
  | 3, _, hb => simp [newBlk] at hb
  | 4, h, hb => obtain ⟨c, _, rfl, hh⟩ : NewV N v W := h; simp [newBlk] at hb; subst hb; exact hh.lt
  | 5, h, hb => obtain ⟨c, _, rfl, hh⟩ : NewV N v W := h; simp [newBlk] at hb; subst hb; exact hh.lt
  | _ + 6, _, hb => simp [newBlk] at hb

theorem load_v22 (W : World) (b : Nat) (c0 c1 c2 c3 c4 c5 : Value) (h : Has W b 25 #[c0, c1, c2, c3, c4, c5]) : (Instr.loadAt 25 (.pointer (some ⟨b, 0, none⟩))).run Try.prog W = .ok (.agg #[c0, c1, c2, c3, c4, c5]) W := by
  have g0 : W.cell? ⟨b, 0, none⟩ = some c0 := h.cell 0
  have g1 : W.cell? ⟨b, 1, none⟩ = some c1 := h.cell 1
  have g2 : W.cell? ⟨b, 2, none⟩ = some c2 := h.cell 2
  have g3 : W.cell? ⟨b, 3, none⟩ = some c3 := h.cell 3
  have g4 : W.cell? ⟨b, 4, none⟩ = some c4 := h.cell 4
  have g5 : W.cell? ⟨b, 5, none⟩ = some c5 := h.cell 5
  clear h
  go_simp

theorem alloc_v22 (W : World) : (Instr.alloc 25 true (.tuple #[])).run Try.prog W = .ok (.pointer (some ⟨W.heap.size, 0, none⟩)) (W.alloc (.cells #[.int .u8 0, .int .u64 0, .int .i64 0, .int .i64 0, .int .i64 0, .int .u64 0] 25)) := by kernel_rfl


/-- Is a value's sort a pointer's? -/
def ptrSort (s : Int) : Bool := s == 2 || s == 3 || s == 5 || s == 6

theorem ref_pointer (w : World) (s n x y o g : Int) (hs : s = 0 ∨ s = 1 ∨ s = 2 ∨ s = 3 ∨ s = 4 ∨ s = 5 ∨ s = 6 ∨ s = 7) :
    Calls Try.prog 33 #[.agg #[.int .u8 s, .int .u64 n, .int .i64 x, .int .i64 y, .int .i64 o, .int .u64 g]] w fun e w' => e = .returned (.bool (ptrSort s)) ∧ Below w.heap.size w w' := by
  rcases hs with rfl | rfl | rfl | rfl | rfl | rfl | rfl | rfl
  all_goals
    go_enter Try.func33, Try.ntmps33
    go_wp2_with fail
    go_returns
    exact ⟨rfl, by go_grown⟩

theorem same_plain (a b : AV) : a.same b = decide (a.plain = b.plain) := by
  cases a <;> cases b <;> simp [AV.same, AV.is, AV.plain, V22.none]
  rename_i a1 a2 a3 a4 b1 b2 b3 b4
  by_cases h1 : a1 = b1 <;> by_cases h2 : a2 = b2 <;> by_cases h3 : a3 = b3 <;> by_cases h4 : a4 = b4 <;> simp [h1, h2, h3, h4]

end Go.Proofs.Ytcddpmiandgkjaa
