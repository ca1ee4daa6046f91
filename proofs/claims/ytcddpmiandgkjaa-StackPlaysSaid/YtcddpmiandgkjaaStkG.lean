import Derived.Test.YtcddpmiandgkjaaStkF
import Derived.Test.YtcddpmiandgkjaaShapes
/-! The laws of the stack: what their walks share: how a Call is read. -/
namespace Go.Proofs.Ytcddpmiandgkjaa
open Go.RowKit Go.Maps Go.Lib Go.Deep
set_option maxHeartbeats 2000000
set_option maxRecDepth 100000
set_option linter.unusedSimpArgs false
set_option linter.unusedVariables false

/-- An argument's value, as the document's. -/
def S25.v (x : S25) : V22 := ⟨x.Sort_, x.N, x.A, x.B, x.Off, x.Gen⟩

theorem V22.fits {v : V22} (h0 : 0 ≤ v.n) (h1 : v.n < 18446744073709551616) : v.av.fits := by
  unfold V22.av
  repeat' split
  all_goals first | exact trivial | exact ⟨h0, h1⟩

theorem S25.fits {x : S25} (h : x.ok) : x.v.av.fits := by
  obtain ⟨_, h, _⟩ := h
  simp [Lit.wf, IntKind.min, IntKind.max, IntKind.bits, IntKind.signed] at h
  exact V22.fits (by show 0 ≤ x.N; omega) (by show x.N < _; omega)

/-- The cells of a value, at an address. -/
theorem load_v (w : World) (b o : Nat) (x : S25) (h : w.rangeAt b o x.cells) : (Instr.loadAt 25 (.pointer (some ⟨b, o, none⟩))).run Try.prog w = .ok x.v.agg w :=
  run_loadAt_mid (P := Try.prog) w b o 25 x.cells _ h Try.underlying25 rfl (by kernel_rfl)

theorem load_int {w : World} {b o : Nat} {x : Int} (h : w.cell? ⟨b, o, none⟩ = some (.int .i64 x)) : (Instr.loadAt 3 (.pointer (some ⟨b, o, none⟩))).run Try.prog w = .ok (.int .i64 x) w := by
  go_simp
theorem load_u8 {w : World} {b o : Nat} {x : Int} (h : w.cell? ⟨b, o, none⟩ = some (.int .u8 x)) : (Instr.loadAt 5 (.pointer (some ⟨b, o, none⟩))).run Try.prog w = .ok (.int .u8 x) w := by
  go_simp
theorem load_u64 {w : World} {b o : Nat} {x : Int} (h : w.cell? ⟨b, o, none⟩ = some (.int .u64 x)) : (Instr.loadAt 23 (.pointer (some ⟨b, o, none⟩))).run Try.prog w = .ok (.int .u64 x) w := by
  go_simp

section
variable {w w' : World} {b o : Nat} {c : S32}
theorem call_at (h : w.rangeAt b o c.cells) : (Instr.loadAt 3 (.pointer (some ⟨b, o + 1, none⟩))).run Try.prog w = .ok (.int .i64 c.At) w := load_int (h 1 _ rfl)
theorem call_size (h : w.rangeAt b o c.cells) : (Instr.loadAt 3 (.pointer (some ⟨b, o + 2, none⟩))).run Try.prog w = .ok (.int .i64 c.Size) w := load_int (h 2 _ rfl)
theorem call_do (h : w.rangeAt b o c.cells) : (Instr.loadAt 5 (.pointer (some ⟨b, o, none⟩))).run Try.prog w = .ok (.int .u8 c.Do) w := load_u8 (h 0 _ rfl)
theorem call_v (h : w.rangeAt b o c.cells) : (Instr.loadAt 25 (.pointer (some ⟨b, o + 3, none⟩))).run Try.prog w = .ok c.V.v.agg w :=
  load_v w b (o + 3) c.V (fun j v hj => by
    have := h (3 + j) v (by
      obtain ⟨xd, xa, xs, ⟨v0, v1, v2, v3, v4, v5⟩⟩ := c
      have hc : S32.cells ⟨xd, xa, xs, ⟨v0, v1, v2, v3, v4, v5⟩⟩ = [.int .u8 xd, .int .i64 xa, .int .i64 xs] ++ S25.cells ⟨v0, v1, v2, v3, v4, v5⟩ := rfl
      rw [hc, List.getElem?_append_right (by simp)]
      simpa using hj)
    rw [show o + 3 + j = o + (3 + j) by omega]
    exact this)
theorem range_below (h : w.rangeAt b o c.cells) (hb : Below w.heap.size w w') : w'.rangeAt b o c.cells := fun j v hj => by
  have h1 := h j v hj
  exact (World.cell?_of_block (hb.block _ (World.block_lt_of_cell? w _ h1))).trans h1
theorem range_turned {S : Nat → Prop} (h : w.rangeAt b o c.cells) (ht : Turned S w w') (hb : ¬ S b) : w'.rangeAt b o c.cells := fun j v hj => ht.cell (h j v hj) hb
theorem range_has (h : Has w b 32 c.cells.toArray) : w.rangeAt b 0 c.cells := fun j v hj => by
  rw [Nat.zero_add, h.cell]
  simpa using hj
end

/-- Two stacks, side by side, at blocks of their own. -/
structure Apart4 (p mb q mc : Nat) : Prop where
  a : p ≠ q
  b : p ≠ mc
  c : mb ≠ q
  d : mb ≠ mc

theorem StkIs.aside {w w' : World} {p mb q mc : Nat} {σ : Stk} (h : StkIs w p mb σ) (ht : Turned (fun k => k = q ∨ k = mc) w w') (hA : Apart4 p mb q mc) : StkIs w' p mb σ :=
  h.turned ht (fun e => by rcases e with e | e; exact hA.a e; exact hA.b e) (fun e => by rcases e with e | e; exact hA.c e; exact hA.d e)
theorem Apart4.symm {p mb q mc : Nat} (h : Apart4 p mb q mc) : Apart4 q mc p mb := ⟨h.a.symm, h.c.symm, h.b.symm, h.d.symm⟩

end Go.Proofs.Ytcddpmiandgkjaa
