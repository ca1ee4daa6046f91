import Derived.Test.YtdlgipoaimgbpaaProg
import Derived.Test.YtdlgipoaimgbpaaGrow
import Derived.Test.YtdlgipoaimgbpaaRange
import Derived.WalkKit
import Derived.Handy
/-! kfunc: free and locked; the table of the seventeen; the region that lays it. -/
namespace Go.Proofs.Ytdlgipoaimgbpaa
open Go.RowKit Go.Shelf
set_option maxHeartbeats 4000000
set_option maxRecDepth 100000
set_option linter.unusedSimpArgs false
set_option linter.unusedVariables false

theorem kf_free (w : World) (g : Int) (A : Option Addr) (n c : Nat) :
    Calls Try.prog 63 #[.int .u8 g, .slice A n c] w fun e w' => e = .returned (.agg #[.slice A n c, .int .u8 g, .bool false, .bool false]) ∧ Below w.heap.size w w' := by
  go_enter Try.func63, Try.ntmps63
  go_wp2_with fail
  go_returns
  exact ⟨rfl, (Below.refl _ w).alloc (Nat.le_refl _) _⟩

theorem kf_locked (w : World) (g : Int) (A : Option Addr) (n c : Nat) :
    Calls Try.prog 65 #[.int .u8 g, .slice A n c] w fun e w' => e = .returned (.agg #[.slice A n c, .int .u8 g, .bool true, .bool true]) ∧ Below w.heap.size w w' := by
  go_enter Try.func65, Try.ntmps65
  go_wp2_with fail
  go_returns
  exact ⟨rfl, (Below.refl _ w).alloc (Nat.le_refl _) _⟩

/-- A slice of a contract's arguments, laid since B: none where there are no arguments. -/
def Arg (B : Nat) (l : List Int) (v : Value) (W : World) : Prop :=
  (l = [] ∧ v = .slice none 0 0) ∨ ∃ b, B ≤ b ∧ v = .slice (some ⟨b, 0, none⟩) l.length l.length ∧ W.heap[b]? = some (.cells (l.map (Value.int .u8)).toArray 5)

theorem Arg.slice {B : Nat} {l : List Int} {v : Value} {W : World} (h : Arg B l v W) : ∃ A n c, v = .slice A n c := by
  rcases h with ⟨_, h⟩ | ⟨b, _, h, _⟩
  · exact ⟨_, _, _, h⟩
  · exact ⟨_, _, _, h⟩

theorem Arg.below {B : Nat} {l : List Int} {v : Value} {W W' : World} (h : Arg B l v W) (hB : Below W.heap.size W W') : Arg B l v W' := by
  rcases h with ⟨h1, h2⟩ | ⟨b, h1, h2, h3⟩
  · exact .inl ⟨h1, h2⟩
  · exact .inr ⟨b, h1, h2, (hB.block b (Array.getElem?_eq_some_iff.1 h3).1).trans h3⟩

theorem Arg.belowOf {B : Nat} {l : List Int} {v : Value} {w W : World} (h : Arg B l v w) (hB : Below w.heap.size w W) : Arg B l v W := h.below hB

/-- One of the functions: its name, its contract. -/
structure KF where
  name : ByteArray
  args : List Int
  gives : Int
  lk : Bool
  un : Bool

def kfs : List KF := [
  ⟨⟨#[108, 111, 111, 107, 117, 112]⟩, [1, 2], 2, false, false⟩,
  ⟨⟨#[100, 114, 97, 119]⟩, [], 1, false, false⟩,
  ⟨⟨#[110, 101, 119]⟩, [3], 3, false, false⟩,
  ⟨⟨#[100, 114, 111, 112]⟩, [4], 0, false, false⟩,
  ⟨⟨#[97, 99, 113, 117, 105, 114, 101]⟩, [5], 4, false, true⟩,
  ⟨⟨#[120, 99, 104, 103]⟩, [6, 7], 5, false, false⟩,
  ⟨⟨#[108, 111, 99, 107]⟩, [8], 0, false, false⟩,
  ⟨⟨#[117, 110, 108, 111, 99, 107]⟩, [8], 0, true, true⟩,
  ⟨⟨#[112, 117, 115, 104, 95, 102, 114, 111, 110, 116]⟩, [9, 10], 6, true, true⟩,
  ⟨⟨#[112, 117, 115, 104, 95, 98, 97, 99, 107]⟩, [9, 10], 6, true, true⟩,
  ⟨⟨#[112, 111, 112, 95, 102, 114, 111, 110, 116]⟩, [9], 7, true, true⟩,
  ⟨⟨#[112, 111, 112, 95, 98, 97, 99, 107]⟩, [9], 7, true, true⟩,
  ⟨⟨#[102, 114, 111, 110, 116]⟩, [9], 8, true, true⟩,
  ⟨⟨#[98, 97, 99, 107]⟩, [9], 8, true, true⟩,
  ⟨⟨#[97, 100, 100]⟩, [11, 12, 14], 6, true, true⟩,
  ⟨⟨#[114, 101, 109, 111, 118, 101]⟩, [11, 13], 7, true, true⟩,
  ⟨⟨#[102, 105, 114, 115, 116]⟩, [11], 8, true, true⟩]

def KF.cells (k : KF) (s : Value) : List Value := [.string k.name, s, .int .u8 k.gives, .bool k.lk, .bool k.un]

def KF.none : KF := ⟨⟨#[]⟩, [], 0, false, false⟩

inductive Kind
  | arg (l : List Int)
  | con (l : List Int) (g : Int) (lk un : Bool)
  | fn (nm : ByteArray) (l : List Int) (g : Int) (lk un : Bool)
  | all
  | num (z : Int)

/-- What a slot of the region is to hold. -/
def Kind.Hold (B : Nat) : Kind → Value → World → Prop
  | .arg l, v, W => Arg B l v W
  | .con l g lk un, v, W => ∃ A n c, v = .agg #[.slice A n c, .int .u8 g, .bool lk, .bool un] ∧ Arg B l (.slice A n c) W
  | .fn nm l g lk un, v, W => ∃ A n c, v = .agg #[.string nm, .slice A n c, .int .u8 g, .bool lk, .bool un] ∧ Arg B l (.slice A n c) W
  | .all, v, W => ∃ f : Nat → Value, v = .agg ((List.range 17).flatMap fun i => (kfs.getD i KF.none).cells (f i)).toArray ∧ ∀ i, i < 17 → Arg B (kfs.getD i KF.none).args (f i) W
  | .num z, v, _ => v = .int .i64 z

theorem Kind.lasts (B : Nat) (k : Kind) : Lasts (k.Hold B) := by
  intro v W W' hB h
  cases k with
  | arg l => exact Arg.below h hB
  | con l g lk un => obtain ⟨A, n, c, h1, h2⟩ := h; exact ⟨A, n, c, h1, h2.below hB⟩
  | fn nm l g lk un => obtain ⟨A, n, c, h1, h2⟩ := h; exact ⟨A, n, c, h1, h2.below hB⟩
  | all => obtain ⟨f, h1, h2⟩ := h; exact ⟨f, h1, fun i hi => (h2 i hi).below hB⟩
  | num z => exact h

def kfKinds : List Kind := [
  .arg [1, 2],
  .con [1, 2] 2 false false,
  .fn ⟨#[108, 111, 111, 107, 117, 112]⟩ [1, 2] 2 false false,
  .con [] 1 false false,
  .fn ⟨#[100, 114, 97, 119]⟩ [] 1 false false,
  .arg [3],
  .con [3] 3 false false,
  .fn ⟨#[110, 101, 119]⟩ [3] 3 false false,
  .arg [4],
  .con [4] 0 false false,
  .fn ⟨#[100, 114, 111, 112]⟩ [4] 0 false false,
  .con [5] 4 false true,
  .fn ⟨#[97, 99, 113, 117, 105, 114, 101]⟩ [5] 4 false true,
  .arg [6, 7],
  .con [6, 7] 5 false false,
  .fn ⟨#[120, 99, 104, 103]⟩ [6, 7] 5 false false,
  .arg [8],
  .con [8] 0 false false,
  .fn ⟨#[108, 111, 99, 107]⟩ [8] 0 false false,
  .arg [8],
  .con [8] 0 true true,
  .fn ⟨#[117, 110, 108, 111, 99, 107]⟩ [8] 0 true true,
  .arg [9, 10],
  .con [9, 10] 6 true true,
  .fn ⟨#[112, 117, 115, 104, 95, 102, 114, 111, 110, 116]⟩ [9, 10] 6 true true,
  .arg [9, 10],
  .con [9, 10] 6 true true,
  .fn ⟨#[112, 117, 115, 104, 95, 98, 97, 99, 107]⟩ [9, 10] 6 true true,
  .arg [9],
  .con [9] 7 true true,
  .fn ⟨#[112, 111, 112, 95, 102, 114, 111, 110, 116]⟩ [9] 7 true true,
  .arg [9],
  .con [9] 7 true true,
  .fn ⟨#[112, 111, 112, 95, 98, 97, 99, 107]⟩ [9] 7 true true,
  .arg [9],
  .con [9] 8 true true,
  .fn ⟨#[102, 114, 111, 110, 116]⟩ [9] 8 true true,
  .arg [9],
  .con [9] 8 true true,
  .fn ⟨#[98, 97, 99, 107]⟩ [9] 8 true true,
  .arg [11, 12, 14],
  .con [11, 12, 14] 6 true true,
  .fn ⟨#[97, 100, 100]⟩ [11, 12, 14] 6 true true,
  .arg [11, 13],
  .con [11, 13] 7 true true,
  .fn ⟨#[114, 101, 109, 111, 118, 101]⟩ [11, 13] 7 true true,
  .arg [11],
  .con [11] 8 true true,
  .fn ⟨#[102, 105, 114, 115, 116]⟩ [11] 8 true true,
  .all,
  .num 0]

def kfPhi (B : Nat) (i : Nat) : Value → World → Prop := (kfKinds.getD i (.num 0)).Hold B

theorem kfPhi_lasts (B i : Nat) : Lasts (kfPhi B i) := Kind.lasts B _

noncomputable def kfOps : List Oper := match Try.f64.body with
  | some (.seq (.region _ ops _) _) => ops.toList
  | _ => []


theorem kf_step_run {n : Nat} {P : Program} {o : Oper} {a : Act} {w : World} {K : Act → World → Prop} {Q : Exit → Act → World → Prop} {v : Value} (ρ : Operand → Value)
    (hs : ∀ cs b, o.op ≠ .select cs b) (hq : ∀ w, o.about P w a.eval = none) (hρ : ∀ x ∈ o.op.operands, a.eval x = ρ x) (hrun : (execOp ρ o).run P w = .ok (.value v) w) (hK : K (a.put o.dst v) w) :
    o.wpIn Fence.wide n P a w K Q := by
  refine ⟨fun f hf => (by rw [hq] at hf; cases hf), ?_⟩
  have e : o.semAt Fence.wide.round a.eval = execOp ρ o := execOp_congr o hs hρ
  rw [e, hrun]
  exact hK

theorem kf_all_eq (s0 s1 s2 s3 s4 s5 s6 s7 s8 s9 s10 s11 s12 s13 s14 s15 s16 : Value) : Value.agg #[.string ⟨#[108, 111, 111, 107, 117, 112]⟩, s0, .int .u8 2, .bool false, .bool false, .string ⟨#[100, 114, 97, 119]⟩, s1, .int .u8 1, .bool false, .bool false, .string ⟨#[110, 101, 119]⟩, s2, .int .u8 3, .bool false, .bool false, .string ⟨#[100, 114, 111, 112]⟩, s3, .int .u8 0, .bool false, .bool false, .string ⟨#[97, 99, 113, 117, 105, 114, 101]⟩, s4, .int .u8 4, .bool false, .bool true, .string ⟨#[120, 99, 104, 103]⟩, s5, .int .u8 5, .bool false, .bool false, .string ⟨#[108, 111, 99, 107]⟩, s6, .int .u8 0, .bool false, .bool false, .string ⟨#[117, 110, 108, 111, 99, 107]⟩, s7, .int .u8 0, .bool true, .bool true, .string ⟨#[112, 117, 115, 104, 95, 102, 114, 111, 110, 116]⟩, s8, .int .u8 6, .bool true, .bool true, .string ⟨#[112, 117, 115, 104, 95, 98, 97, 99, 107]⟩, s9, .int .u8 6, .bool true, .bool true, .string ⟨#[112, 111, 112, 95, 102, 114, 111, 110, 116]⟩, s10, .int .u8 7, .bool true, .bool true, .string ⟨#[112, 111, 112, 95, 98, 97, 99, 107]⟩, s11, .int .u8 7, .bool true, .bool true, .string ⟨#[102, 114, 111, 110, 116]⟩, s12, .int .u8 8, .bool true, .bool true, .string ⟨#[98, 97, 99, 107]⟩, s13, .int .u8 8, .bool true, .bool true, .string ⟨#[97, 100, 100]⟩, s14, .int .u8 6, .bool true, .bool true, .string ⟨#[114, 101, 109, 111, 118, 101]⟩, s15, .int .u8 7, .bool true, .bool true, .string ⟨#[102, 105, 114, 115, 116]⟩, s16, .int .u8 8, .bool true, .bool true] = .agg ((List.range 17).flatMap fun i => (kfs.getD i KF.none).cells (([s0, s1, s2, s3, s4, s5, s6, s7, s8, s9, s10, s11, s12, s13, s14, s15, s16] : List Value).getD i undef)).toArray := by
  simp [kfs, KF.cells, List.range, List.range.loop]

theorem kf_hold_all (B : Nat) (W : World) (A0 : Option Addr) (n0 c0 : Nat) (A1 : Option Addr) (n1 c1 : Nat) (A2 : Option Addr) (n2 c2 : Nat) (A3 : Option Addr) (n3 c3 : Nat) (A4 : Option Addr) (n4 c4 : Nat) (A5 : Option Addr) (n5 c5 : Nat) (A6 : Option Addr) (n6 c6 : Nat) (A7 : Option Addr) (n7 c7 : Nat) (A8 : Option Addr) (n8 c8 : Nat) (A9 : Option Addr) (n9 c9 : Nat) (A10 : Option Addr) (n10 c10 : Nat) (A11 : Option Addr) (n11 c11 : Nat) (A12 : Option Addr) (n12 c12 : Nat) (A13 : Option Addr) (n13 c13 : Nat) (A14 : Option Addr) (n14 c14 : Nat) (A15 : Option Addr) (n15 c15 : Nat) (A16 : Option Addr) (n16 c16 : Nat)
    (h0 : Arg B [1, 2] (.slice A0 n0 c0) W) (h1 : Arg B [] (.slice A1 n1 c1) W) (h2 : Arg B [3] (.slice A2 n2 c2) W) (h3 : Arg B [4] (.slice A3 n3 c3) W) (h4 : Arg B [5] (.slice A4 n4 c4) W) (h5 : Arg B [6, 7] (.slice A5 n5 c5) W) (h6 : Arg B [8] (.slice A6 n6 c6) W) (h7 : Arg B [8] (.slice A7 n7 c7) W) (h8 : Arg B [9, 10] (.slice A8 n8 c8) W) (h9 : Arg B [9, 10] (.slice A9 n9 c9) W) (h10 : Arg B [9] (.slice A10 n10 c10) W) (h11 : Arg B [9] (.slice A11 n11 c11) W) (h12 : Arg B [9] (.slice A12 n12 c12) W) (h13 : Arg B [9] (.slice A13 n13 c13) W) (h14 : Arg B [11, 12, 14] (.slice A14 n14 c14) W) (h15 : Arg B [11, 13] (.slice A15 n15 c15) W) (h16 : Arg B [11] (.slice A16 n16 c16) W) :
    Kind.Hold B .all (Value.agg #[.string ⟨#[108, 111, 111, 107, 117, 112]⟩, .slice A0 n0 c0, .int .u8 2, .bool false, .bool false, .string ⟨#[100, 114, 97, 119]⟩, .slice A1 n1 c1, .int .u8 1, .bool false, .bool false, .string ⟨#[110, 101, 119]⟩, .slice A2 n2 c2, .int .u8 3, .bool false, .bool false, .string ⟨#[100, 114, 111, 112]⟩, .slice A3 n3 c3, .int .u8 0, .bool false, .bool false, .string ⟨#[97, 99, 113, 117, 105, 114, 101]⟩, .slice A4 n4 c4, .int .u8 4, .bool false, .bool true, .string ⟨#[120, 99, 104, 103]⟩, .slice A5 n5 c5, .int .u8 5, .bool false, .bool false, .string ⟨#[108, 111, 99, 107]⟩, .slice A6 n6 c6, .int .u8 0, .bool false, .bool false, .string ⟨#[117, 110, 108, 111, 99, 107]⟩, .slice A7 n7 c7, .int .u8 0, .bool true, .bool true, .string ⟨#[112, 117, 115, 104, 95, 102, 114, 111, 110, 116]⟩, .slice A8 n8 c8, .int .u8 6, .bool true, .bool true, .string ⟨#[112, 117, 115, 104, 95, 98, 97, 99, 107]⟩, .slice A9 n9 c9, .int .u8 6, .bool true, .bool true, .string ⟨#[112, 111, 112, 95, 102, 114, 111, 110, 116]⟩, .slice A10 n10 c10, .int .u8 7, .bool true, .bool true, .string ⟨#[112, 111, 112, 95, 98, 97, 99, 107]⟩, .slice A11 n11 c11, .int .u8 7, .bool true, .bool true, .string ⟨#[102, 114, 111, 110, 116]⟩, .slice A12 n12 c12, .int .u8 8, .bool true, .bool true, .string ⟨#[98, 97, 99, 107]⟩, .slice A13 n13 c13, .int .u8 8, .bool true, .bool true, .string ⟨#[97, 100, 100]⟩, .slice A14 n14 c14, .int .u8 6, .bool true, .bool true, .string ⟨#[114, 101, 109, 111, 118, 101]⟩, .slice A15 n15 c15, .int .u8 7, .bool true, .bool true, .string ⟨#[102, 105, 114, 115, 116]⟩, .slice A16 n16 c16, .int .u8 8, .bool true, .bool true]) W := by
  refine ⟨fun i => ([.slice A0 n0 c0, .slice A1 n1 c1, .slice A2 n2 c2, .slice A3 n3 c3, .slice A4 n4 c4, .slice A5 n5 c5, .slice A6 n6 c6, .slice A7 n7 c7, .slice A8 n8 c8, .slice A9 n9 c9, .slice A10 n10 c10, .slice A11 n11 c11, .slice A12 n12 c12, .slice A13 n13 c13, .slice A14 n14 c14, .slice A15 n15 c15, .slice A16 n16 c16] : List Value).getD i undef, kf_all_eq (.slice A0 n0 c0) (.slice A1 n1 c1) (.slice A2 n2 c2) (.slice A3 n3 c3) (.slice A4 n4 c4) (.slice A5 n5 c5) (.slice A6 n6 c6) (.slice A7 n7 c7) (.slice A8 n8 c8) (.slice A9 n9 c9) (.slice A10 n10 c10) (.slice A11 n11 c11) (.slice A12 n12 c12) (.slice A13 n13 c13) (.slice A14 n14 c14) (.slice A15 n15 c15) (.slice A16 n16 c16), ?_⟩
  intro i hi
  have hc : i = 0 ∨ i = 1 ∨ i = 2 ∨ i = 3 ∨ i = 4 ∨ i = 5 ∨ i = 6 ∨ i = 7 ∨ i = 8 ∨ i = 9 ∨ i = 10 ∨ i = 11 ∨ i = 12 ∨ i = 13 ∨ i = 14 ∨ i = 15 ∨ i = 16 := by omega
  rcases hc with rfl | rfl | rfl | rfl | rfl | rfl | rfl | rfl | rfl | rfl | rfl | rfl | rfl | rfl | rfl | rfl | rfl
  · exact h0
  · exact h1
  · exact h2
  · exact h3
  · exact h4
  · exact h5
  · exact h6
  · exact h7
  · exact h8
  · exact h9
  · exact h10
  · exact h11
  · exact h12
  · exact h13
  · exact h14
  · exact h15
  · exact h16

theorem kf_steps (n : Nat) (Q : Exit → Act → World → Prop) (a : Act) (w : World) (B ba : Nat) (hB : B ≤ w.heap.size) (sa : Value) (hs1 : a.tmps[1]? = some (.pointer (some ⟨ba, 0, none⟩))) (hba : w.heap[ba]? = some (.cells #[sa, .int .u8 4, .bool false, .bool true] 37)) (hsa : Arg B [5] sa w) :
    GrowSteps Fence.wide n Try.prog Q a w (· + 5) (fun t => t < 5) (kfPhi B) 0 kfOps := by
  unfold kfOps
  refine ⟨⟨rfl, ?_⟩, ⟨rfl, ?_⟩, ⟨rfl, ?_⟩, ⟨rfl, ?_⟩, ⟨rfl, ?_⟩, ⟨rfl, ?_⟩, ⟨rfl, ?_⟩, ⟨rfl, ?_⟩, ⟨rfl, ?_⟩, ⟨rfl, ?_⟩, ⟨rfl, ?_⟩, ⟨rfl, ?_⟩, ⟨rfl, ?_⟩, ⟨rfl, ?_⟩, ⟨rfl, ?_⟩, ⟨rfl, ?_⟩, ⟨rfl, ?_⟩, ⟨rfl, ?_⟩, ⟨rfl, ?_⟩, ⟨rfl, ?_⟩, ⟨rfl, ?_⟩, ⟨rfl, ?_⟩, ⟨rfl, ?_⟩, ⟨rfl, ?_⟩, ⟨rfl, ?_⟩, ⟨rfl, ?_⟩, ⟨rfl, ?_⟩, ⟨rfl, ?_⟩, ⟨rfl, ?_⟩, ⟨rfl, ?_⟩, ⟨rfl, ?_⟩, ⟨rfl, ?_⟩, ⟨rfl, ?_⟩, ⟨rfl, ?_⟩, ⟨rfl, ?_⟩, ⟨rfl, ?_⟩, ⟨rfl, ?_⟩, ⟨rfl, ?_⟩, ⟨rfl, ?_⟩, ⟨rfl, ?_⟩, ⟨rfl, ?_⟩, ⟨rfl, ?_⟩, ⟨rfl, ?_⟩, ⟨rfl, ?_⟩, ⟨rfl, ?_⟩, ⟨rfl, ?_⟩, ⟨rfl, ?_⟩, ⟨rfl, ?_⟩, ⟨rfl, ?_⟩, ⟨rfl, ?_⟩, ⟨rfl, ?_⟩, trivial⟩
  · intro a' W hBW hs hold he K hK
    unfold Oper.wpIn
    simp [go_sem]
    exact hK _ _ ((Below.refl _ W).alloc (Nat.le_refl _) _) (.inr ⟨_, Nat.le_trans hB hBW.size, rfl, World.alloc_heap_new _ _⟩)
  · intro a' W hBW hs hold he K hK
    have h0 : kfPhi B 0 (a'.tmps[5]?.getD undef) W := by
      have := he { on := 0, ground := Ground.data } (by simp) rfl
      simpa [Act.eval] using this
    obtain ⟨A, n, c, hv⟩ := Arg.slice h0
    rw [hv] at h0
    unfold Oper.wpIn
    simp [go_sem, hv]
    refine ⟨trivial, fun h => absurd h (by simp [Fence.wide]), ?_⟩
    refine (callsIn_wide.2 (kf_free W _ A n c)).mono ?_
    rintro e W' ⟨rfl, hb⟩
    exact hK _ _ hb ⟨A, n, c, rfl, Arg.below h0 hb⟩
  · intro a' W hBW hs hold he K hK
    have h0 : kfPhi B 1 (a'.tmps[6]?.getD undef) W := by
      have := he { on := 1, ground := Ground.data } (by simp) rfl
      simpa [Act.eval] using this
    obtain ⟨A, n, c, hv, h1⟩ := h0
    unfold Oper.wpIn
    simp [go_sem, hv]
    exact hK _ _ (Below.refl _ W) ⟨A, n, c, rfl, h1⟩
  · intro a' W hBW hs hold he K hK
    unfold Oper.wpIn
    simp [go_sem]
    refine ⟨trivial, fun h => absurd h (by simp [Fence.wide]), ?_⟩
    refine (callsIn_wide.2 (kf_free W _ none 0 0)).mono ?_
    rintro e W' ⟨rfl, hb⟩
    exact hK _ _ hb ⟨none, 0, 0, rfl, .inl ⟨rfl, rfl⟩⟩
  · intro a' W hBW hs hold he K hK
    have h0 : kfPhi B 3 (a'.tmps[8]?.getD undef) W := by
      have := he { on := 3, ground := Ground.data } (by simp) rfl
      simpa [Act.eval] using this
    obtain ⟨A, n, c, hv, h1⟩ := h0
    unfold Oper.wpIn
    simp [go_sem, hv]
    exact hK _ _ (Below.refl _ W) ⟨A, n, c, rfl, h1⟩
  · intro a' W hBW hs hold he K hK
    unfold Oper.wpIn
    simp [go_sem]
    exact hK _ _ ((Below.refl _ W).alloc (Nat.le_refl _) _) (.inr ⟨_, Nat.le_trans hB hBW.size, rfl, World.alloc_heap_new _ _⟩)
  · intro a' W hBW hs hold he K hK
    have h0 : kfPhi B 5 (a'.tmps[10]?.getD undef) W := by
      have := he { on := 5, ground := Ground.data } (by simp) rfl
      simpa [Act.eval] using this
    obtain ⟨A, n, c, hv⟩ := Arg.slice h0
    rw [hv] at h0
    unfold Oper.wpIn
    simp [go_sem, hv]
    refine ⟨trivial, fun h => absurd h (by simp [Fence.wide]), ?_⟩
    refine (callsIn_wide.2 (kf_free W _ A n c)).mono ?_
    rintro e W' ⟨rfl, hb⟩
    exact hK _ _ hb ⟨A, n, c, rfl, Arg.below h0 hb⟩
  · intro a' W hBW hs hold he K hK
    have h0 : kfPhi B 6 (a'.tmps[11]?.getD undef) W := by
      have := he { on := 6, ground := Ground.data } (by simp) rfl
      simpa [Act.eval] using this
    obtain ⟨A, n, c, hv, h1⟩ := h0
    unfold Oper.wpIn
    simp [go_sem, hv]
    exact hK _ _ (Below.refl _ W) ⟨A, n, c, rfl, h1⟩
  · intro a' W hBW hs hold he K hK
    unfold Oper.wpIn
    simp [go_sem]
    exact hK _ _ ((Below.refl _ W).alloc (Nat.le_refl _) _) (.inr ⟨_, Nat.le_trans hB hBW.size, rfl, World.alloc_heap_new _ _⟩)
  · intro a' W hBW hs hold he K hK
    have h0 : kfPhi B 8 (a'.tmps[13]?.getD undef) W := by
      have := he { on := 8, ground := Ground.data } (by simp) rfl
      simpa [Act.eval] using this
    obtain ⟨A, n, c, hv⟩ := Arg.slice h0
    rw [hv] at h0
    unfold Oper.wpIn
    simp [go_sem, hv]
    refine ⟨trivial, fun h => absurd h (by simp [Fence.wide]), ?_⟩
    refine (callsIn_wide.2 (kf_free W _ A n c)).mono ?_
    rintro e W' ⟨rfl, hb⟩
    exact hK _ _ hb ⟨A, n, c, rfl, Arg.below h0 hb⟩
  · intro a' W hBW hs hold he K hK
    have h0 : kfPhi B 9 (a'.tmps[14]?.getD undef) W := by
      have := he { on := 9, ground := Ground.data } (by simp) rfl
      simpa [Act.eval] using this
    obtain ⟨A, n, c, hv, h1⟩ := h0
    unfold Oper.wpIn
    simp [go_sem, hv]
    exact hK _ _ (Below.refl _ W) ⟨A, n, c, rfl, h1⟩
  · intro a' W hBW hs hold he K hK
    have hp : a'.tmps[1]? = some (.pointer (some ⟨ba, 0, none⟩)) := (hold 1 (by decide)).trans hs1
    have hc : W.heap[ba]? = some (.cells #[sa, .int .u8 4, .bool false, .bool true] 37) := (hBW.block ba (Array.getElem?_eq_some_iff.1 hba).1).trans hba
    have c0 : W.cell? ⟨ba, 0, none⟩ = some sa := by simp [World.cell?, hc]
    have c1 : W.cell? ⟨ba, 1, none⟩ = some (.int .u8 4) := by simp [World.cell?, hc]
    have c2 : W.cell? ⟨ba, 2, none⟩ = some (.bool false) := by simp [World.cell?, hc]
    have c3 : W.cell? ⟨ba, 3, none⟩ = some (.bool true) := by simp [World.cell?, hc]
    obtain ⟨A, n, c, hv⟩ := Arg.slice hsa
    rw [hv] at hsa c0
    unfold Oper.wpIn
    simp [go_sem, hp, c0, c1, c2, c3]
    exact hK _ _ (Below.refl _ W) ⟨A, n, c, rfl, Arg.belowOf hsa hBW⟩
  · intro a' W hBW hs hold he K hK
    have h0 : kfPhi B 11 (a'.tmps[16]?.getD undef) W := by
      have := he { on := 11, ground := Ground.data } (by simp) rfl
      simpa [Act.eval] using this
    obtain ⟨A, n, c, hv, h1⟩ := h0
    unfold Oper.wpIn
    simp [go_sem, hv]
    exact hK _ _ (Below.refl _ W) ⟨A, n, c, rfl, h1⟩
  · intro a' W hBW hs hold he K hK
    unfold Oper.wpIn
    simp [go_sem]
    exact hK _ _ ((Below.refl _ W).alloc (Nat.le_refl _) _) (.inr ⟨_, Nat.le_trans hB hBW.size, rfl, World.alloc_heap_new _ _⟩)
  · intro a' W hBW hs hold he K hK
    have h0 : kfPhi B 13 (a'.tmps[18]?.getD undef) W := by
      have := he { on := 13, ground := Ground.data } (by simp) rfl
      simpa [Act.eval] using this
    obtain ⟨A, n, c, hv⟩ := Arg.slice h0
    rw [hv] at h0
    unfold Oper.wpIn
    simp [go_sem, hv]
    refine ⟨trivial, fun h => absurd h (by simp [Fence.wide]), ?_⟩
    refine (callsIn_wide.2 (kf_free W _ A n c)).mono ?_
    rintro e W' ⟨rfl, hb⟩
    exact hK _ _ hb ⟨A, n, c, rfl, Arg.below h0 hb⟩
  · intro a' W hBW hs hold he K hK
    have h0 : kfPhi B 14 (a'.tmps[19]?.getD undef) W := by
      have := he { on := 14, ground := Ground.data } (by simp) rfl
      simpa [Act.eval] using this
    obtain ⟨A, n, c, hv, h1⟩ := h0
    unfold Oper.wpIn
    simp [go_sem, hv]
    exact hK _ _ (Below.refl _ W) ⟨A, n, c, rfl, h1⟩
  · intro a' W hBW hs hold he K hK
    unfold Oper.wpIn
    simp [go_sem]
    exact hK _ _ ((Below.refl _ W).alloc (Nat.le_refl _) _) (.inr ⟨_, Nat.le_trans hB hBW.size, rfl, World.alloc_heap_new _ _⟩)
  · intro a' W hBW hs hold he K hK
    have h0 : kfPhi B 16 (a'.tmps[21]?.getD undef) W := by
      have := he { on := 16, ground := Ground.data } (by simp) rfl
      simpa [Act.eval] using this
    obtain ⟨A, n, c, hv⟩ := Arg.slice h0
    rw [hv] at h0
    unfold Oper.wpIn
    simp [go_sem, hv]
    refine ⟨trivial, fun h => absurd h (by simp [Fence.wide]), ?_⟩
    refine (callsIn_wide.2 (kf_free W _ A n c)).mono ?_
    rintro e W' ⟨rfl, hb⟩
    exact hK _ _ hb ⟨A, n, c, rfl, Arg.below h0 hb⟩
  · intro a' W hBW hs hold he K hK
    have h0 : kfPhi B 17 (a'.tmps[22]?.getD undef) W := by
      have := he { on := 17, ground := Ground.data } (by simp) rfl
      simpa [Act.eval] using this
    obtain ⟨A, n, c, hv, h1⟩ := h0
    unfold Oper.wpIn
    simp [go_sem, hv]
    exact hK _ _ (Below.refl _ W) ⟨A, n, c, rfl, h1⟩
  · intro a' W hBW hs hold he K hK
    unfold Oper.wpIn
    simp [go_sem]
    exact hK _ _ ((Below.refl _ W).alloc (Nat.le_refl _) _) (.inr ⟨_, Nat.le_trans hB hBW.size, rfl, World.alloc_heap_new _ _⟩)
  · intro a' W hBW hs hold he K hK
    have h0 : kfPhi B 19 (a'.tmps[24]?.getD undef) W := by
      have := he { on := 19, ground := Ground.data } (by simp) rfl
      simpa [Act.eval] using this
    obtain ⟨A, n, c, hv⟩ := Arg.slice h0
    rw [hv] at h0
    unfold Oper.wpIn
    simp [go_sem, hv]
    refine ⟨trivial, fun h => absurd h (by simp [Fence.wide]), ?_⟩
    refine (callsIn_wide.2 (kf_locked W _ A n c)).mono ?_
    rintro e W' ⟨rfl, hb⟩
    exact hK _ _ hb ⟨A, n, c, rfl, Arg.below h0 hb⟩
  · intro a' W hBW hs hold he K hK
    have h0 : kfPhi B 20 (a'.tmps[25]?.getD undef) W := by
      have := he { on := 20, ground := Ground.data } (by simp) rfl
      simpa [Act.eval] using this
    obtain ⟨A, n, c, hv, h1⟩ := h0
    unfold Oper.wpIn
    simp [go_sem, hv]
    exact hK _ _ (Below.refl _ W) ⟨A, n, c, rfl, h1⟩
  · intro a' W hBW hs hold he K hK
    unfold Oper.wpIn
    simp [go_sem]
    exact hK _ _ ((Below.refl _ W).alloc (Nat.le_refl _) _) (.inr ⟨_, Nat.le_trans hB hBW.size, rfl, World.alloc_heap_new _ _⟩)
  · intro a' W hBW hs hold he K hK
    have h0 : kfPhi B 22 (a'.tmps[27]?.getD undef) W := by
      have := he { on := 22, ground := Ground.data } (by simp) rfl
      simpa [Act.eval] using this
    obtain ⟨A, n, c, hv⟩ := Arg.slice h0
    rw [hv] at h0
    unfold Oper.wpIn
    simp [go_sem, hv]
    refine ⟨trivial, fun h => absurd h (by simp [Fence.wide]), ?_⟩
    refine (callsIn_wide.2 (kf_locked W _ A n c)).mono ?_
    rintro e W' ⟨rfl, hb⟩
    exact hK _ _ hb ⟨A, n, c, rfl, Arg.below h0 hb⟩
  · intro a' W hBW hs hold he K hK
    have h0 : kfPhi B 23 (a'.tmps[28]?.getD undef) W := by
      have := he { on := 23, ground := Ground.data } (by simp) rfl
      simpa [Act.eval] using this
    obtain ⟨A, n, c, hv, h1⟩ := h0
    unfold Oper.wpIn
    simp [go_sem, hv]
    exact hK _ _ (Below.refl _ W) ⟨A, n, c, rfl, h1⟩
  · intro a' W hBW hs hold he K hK
    unfold Oper.wpIn
    simp [go_sem]
    exact hK _ _ ((Below.refl _ W).alloc (Nat.le_refl _) _) (.inr ⟨_, Nat.le_trans hB hBW.size, rfl, World.alloc_heap_new _ _⟩)
  · intro a' W hBW hs hold he K hK
    have h0 : kfPhi B 25 (a'.tmps[30]?.getD undef) W := by
      have := he { on := 25, ground := Ground.data } (by simp) rfl
      simpa [Act.eval] using this
    obtain ⟨A, n, c, hv⟩ := Arg.slice h0
    rw [hv] at h0
    unfold Oper.wpIn
    simp [go_sem, hv]
    refine ⟨trivial, fun h => absurd h (by simp [Fence.wide]), ?_⟩
    refine (callsIn_wide.2 (kf_locked W _ A n c)).mono ?_
    rintro e W' ⟨rfl, hb⟩
    exact hK _ _ hb ⟨A, n, c, rfl, Arg.below h0 hb⟩
  · intro a' W hBW hs hold he K hK
    have h0 : kfPhi B 26 (a'.tmps[31]?.getD undef) W := by
      have := he { on := 26, ground := Ground.data } (by simp) rfl
      simpa [Act.eval] using this
    obtain ⟨A, n, c, hv, h1⟩ := h0
    unfold Oper.wpIn
    simp [go_sem, hv]
    exact hK _ _ (Below.refl _ W) ⟨A, n, c, rfl, h1⟩
  · intro a' W hBW hs hold he K hK
    unfold Oper.wpIn
    simp [go_sem]
    exact hK _ _ ((Below.refl _ W).alloc (Nat.le_refl _) _) (.inr ⟨_, Nat.le_trans hB hBW.size, rfl, World.alloc_heap_new _ _⟩)
  · intro a' W hBW hs hold he K hK
    have h0 : kfPhi B 28 (a'.tmps[33]?.getD undef) W := by
      have := he { on := 28, ground := Ground.data } (by simp) rfl
      simpa [Act.eval] using this
    obtain ⟨A, n, c, hv⟩ := Arg.slice h0
    rw [hv] at h0
    unfold Oper.wpIn
    simp [go_sem, hv]
    refine ⟨trivial, fun h => absurd h (by simp [Fence.wide]), ?_⟩
    refine (callsIn_wide.2 (kf_locked W _ A n c)).mono ?_
    rintro e W' ⟨rfl, hb⟩
    exact hK _ _ hb ⟨A, n, c, rfl, Arg.below h0 hb⟩
  · intro a' W hBW hs hold he K hK
    have h0 : kfPhi B 29 (a'.tmps[34]?.getD undef) W := by
      have := he { on := 29, ground := Ground.data } (by simp) rfl
      simpa [Act.eval] using this
    obtain ⟨A, n, c, hv, h1⟩ := h0
    unfold Oper.wpIn
    simp [go_sem, hv]
    exact hK _ _ (Below.refl _ W) ⟨A, n, c, rfl, h1⟩
  · intro a' W hBW hs hold he K hK
    unfold Oper.wpIn
    simp [go_sem]
    exact hK _ _ ((Below.refl _ W).alloc (Nat.le_refl _) _) (.inr ⟨_, Nat.le_trans hB hBW.size, rfl, World.alloc_heap_new _ _⟩)
  · intro a' W hBW hs hold he K hK
    have h0 : kfPhi B 31 (a'.tmps[36]?.getD undef) W := by
      have := he { on := 31, ground := Ground.data } (by simp) rfl
      simpa [Act.eval] using this
    obtain ⟨A, n, c, hv⟩ := Arg.slice h0
    rw [hv] at h0
    unfold Oper.wpIn
    simp [go_sem, hv]
    refine ⟨trivial, fun h => absurd h (by simp [Fence.wide]), ?_⟩
    refine (callsIn_wide.2 (kf_locked W _ A n c)).mono ?_
    rintro e W' ⟨rfl, hb⟩
    exact hK _ _ hb ⟨A, n, c, rfl, Arg.below h0 hb⟩
  · intro a' W hBW hs hold he K hK
    have h0 : kfPhi B 32 (a'.tmps[37]?.getD undef) W := by
      have := he { on := 32, ground := Ground.data } (by simp) rfl
      simpa [Act.eval] using this
    obtain ⟨A, n, c, hv, h1⟩ := h0
    unfold Oper.wpIn
    simp [go_sem, hv]
    exact hK _ _ (Below.refl _ W) ⟨A, n, c, rfl, h1⟩
  · intro a' W hBW hs hold he K hK
    unfold Oper.wpIn
    simp [go_sem]
    exact hK _ _ ((Below.refl _ W).alloc (Nat.le_refl _) _) (.inr ⟨_, Nat.le_trans hB hBW.size, rfl, World.alloc_heap_new _ _⟩)
  · intro a' W hBW hs hold he K hK
    have h0 : kfPhi B 34 (a'.tmps[39]?.getD undef) W := by
      have := he { on := 34, ground := Ground.data } (by simp) rfl
      simpa [Act.eval] using this
    obtain ⟨A, n, c, hv⟩ := Arg.slice h0
    rw [hv] at h0
    unfold Oper.wpIn
    simp [go_sem, hv]
    refine ⟨trivial, fun h => absurd h (by simp [Fence.wide]), ?_⟩
    refine (callsIn_wide.2 (kf_locked W _ A n c)).mono ?_
    rintro e W' ⟨rfl, hb⟩
    exact hK _ _ hb ⟨A, n, c, rfl, Arg.below h0 hb⟩
  · intro a' W hBW hs hold he K hK
    have h0 : kfPhi B 35 (a'.tmps[40]?.getD undef) W := by
      have := he { on := 35, ground := Ground.data } (by simp) rfl
      simpa [Act.eval] using this
    obtain ⟨A, n, c, hv, h1⟩ := h0
    unfold Oper.wpIn
    simp [go_sem, hv]
    exact hK _ _ (Below.refl _ W) ⟨A, n, c, rfl, h1⟩
  · intro a' W hBW hs hold he K hK
    unfold Oper.wpIn
    simp [go_sem]
    exact hK _ _ ((Below.refl _ W).alloc (Nat.le_refl _) _) (.inr ⟨_, Nat.le_trans hB hBW.size, rfl, World.alloc_heap_new _ _⟩)
  · intro a' W hBW hs hold he K hK
    have h0 : kfPhi B 37 (a'.tmps[42]?.getD undef) W := by
      have := he { on := 37, ground := Ground.data } (by simp) rfl
      simpa [Act.eval] using this
    obtain ⟨A, n, c, hv⟩ := Arg.slice h0
    rw [hv] at h0
    unfold Oper.wpIn
    simp [go_sem, hv]
    refine ⟨trivial, fun h => absurd h (by simp [Fence.wide]), ?_⟩
    refine (callsIn_wide.2 (kf_locked W _ A n c)).mono ?_
    rintro e W' ⟨rfl, hb⟩
    exact hK _ _ hb ⟨A, n, c, rfl, Arg.below h0 hb⟩
  · intro a' W hBW hs hold he K hK
    have h0 : kfPhi B 38 (a'.tmps[43]?.getD undef) W := by
      have := he { on := 38, ground := Ground.data } (by simp) rfl
      simpa [Act.eval] using this
    obtain ⟨A, n, c, hv, h1⟩ := h0
    unfold Oper.wpIn
    simp [go_sem, hv]
    exact hK _ _ (Below.refl _ W) ⟨A, n, c, rfl, h1⟩
  · intro a' W hBW hs hold he K hK
    unfold Oper.wpIn
    simp [go_sem]
    exact hK _ _ ((Below.refl _ W).alloc (Nat.le_refl _) _) (.inr ⟨_, Nat.le_trans hB hBW.size, rfl, World.alloc_heap_new _ _⟩)
  · intro a' W hBW hs hold he K hK
    have h0 : kfPhi B 40 (a'.tmps[45]?.getD undef) W := by
      have := he { on := 40, ground := Ground.data } (by simp) rfl
      simpa [Act.eval] using this
    obtain ⟨A, n, c, hv⟩ := Arg.slice h0
    rw [hv] at h0
    unfold Oper.wpIn
    simp [go_sem, hv]
    refine ⟨trivial, fun h => absurd h (by simp [Fence.wide]), ?_⟩
    refine (callsIn_wide.2 (kf_locked W _ A n c)).mono ?_
    rintro e W' ⟨rfl, hb⟩
    exact hK _ _ hb ⟨A, n, c, rfl, Arg.below h0 hb⟩
  · intro a' W hBW hs hold he K hK
    have h0 : kfPhi B 41 (a'.tmps[46]?.getD undef) W := by
      have := he { on := 41, ground := Ground.data } (by simp) rfl
      simpa [Act.eval] using this
    obtain ⟨A, n, c, hv, h1⟩ := h0
    unfold Oper.wpIn
    simp [go_sem, hv]
    exact hK _ _ (Below.refl _ W) ⟨A, n, c, rfl, h1⟩
  · intro a' W hBW hs hold he K hK
    unfold Oper.wpIn
    simp [go_sem]
    exact hK _ _ ((Below.refl _ W).alloc (Nat.le_refl _) _) (.inr ⟨_, Nat.le_trans hB hBW.size, rfl, World.alloc_heap_new _ _⟩)
  · intro a' W hBW hs hold he K hK
    have h0 : kfPhi B 43 (a'.tmps[48]?.getD undef) W := by
      have := he { on := 43, ground := Ground.data } (by simp) rfl
      simpa [Act.eval] using this
    obtain ⟨A, n, c, hv⟩ := Arg.slice h0
    rw [hv] at h0
    unfold Oper.wpIn
    simp [go_sem, hv]
    refine ⟨trivial, fun h => absurd h (by simp [Fence.wide]), ?_⟩
    refine (callsIn_wide.2 (kf_locked W _ A n c)).mono ?_
    rintro e W' ⟨rfl, hb⟩
    exact hK _ _ hb ⟨A, n, c, rfl, Arg.below h0 hb⟩
  · intro a' W hBW hs hold he K hK
    have h0 : kfPhi B 44 (a'.tmps[49]?.getD undef) W := by
      have := he { on := 44, ground := Ground.data } (by simp) rfl
      simpa [Act.eval] using this
    obtain ⟨A, n, c, hv, h1⟩ := h0
    unfold Oper.wpIn
    simp [go_sem, hv]
    exact hK _ _ (Below.refl _ W) ⟨A, n, c, rfl, h1⟩
  · intro a' W hBW hs hold he K hK
    unfold Oper.wpIn
    simp [go_sem]
    exact hK _ _ ((Below.refl _ W).alloc (Nat.le_refl _) _) (.inr ⟨_, Nat.le_trans hB hBW.size, rfl, World.alloc_heap_new _ _⟩)
  · intro a' W hBW hs hold he K hK
    have h0 : kfPhi B 46 (a'.tmps[51]?.getD undef) W := by
      have := he { on := 46, ground := Ground.data } (by simp) rfl
      simpa [Act.eval] using this
    obtain ⟨A, n, c, hv⟩ := Arg.slice h0
    rw [hv] at h0
    unfold Oper.wpIn
    simp [go_sem, hv]
    refine ⟨trivial, fun h => absurd h (by simp [Fence.wide]), ?_⟩
    refine (callsIn_wide.2 (kf_locked W _ A n c)).mono ?_
    rintro e W' ⟨rfl, hb⟩
    exact hK _ _ hb ⟨A, n, c, rfl, Arg.below h0 hb⟩
  · intro a' W hBW hs hold he K hK
    have h0 : kfPhi B 47 (a'.tmps[52]?.getD undef) W := by
      have := he { on := 47, ground := Ground.data } (by simp) rfl
      simpa [Act.eval] using this
    obtain ⟨A, n, c, hv, h1⟩ := h0
    unfold Oper.wpIn
    simp [go_sem, hv]
    exact hK _ _ (Below.refl _ W) ⟨A, n, c, rfl, h1⟩
  · intro a' W hBW hs hold he K hK
    obtain ⟨A0, n0, c0, hv0, h0⟩ : kfPhi B 2 (a'.eval (.tmp 7)) W := he { on := 2, ground := Ground.data } (by simp) rfl
    obtain ⟨A1, n1, c1, hv1, h1⟩ : kfPhi B 4 (a'.eval (.tmp 9)) W := he { on := 4, ground := Ground.data } (by simp) rfl
    obtain ⟨A2, n2, c2, hv2, h2⟩ : kfPhi B 7 (a'.eval (.tmp 12)) W := he { on := 7, ground := Ground.data } (by simp) rfl
    obtain ⟨A3, n3, c3, hv3, h3⟩ : kfPhi B 10 (a'.eval (.tmp 15)) W := he { on := 10, ground := Ground.data } (by simp) rfl
    obtain ⟨A4, n4, c4, hv4, h4⟩ : kfPhi B 12 (a'.eval (.tmp 17)) W := he { on := 12, ground := Ground.data } (by simp) rfl
    obtain ⟨A5, n5, c5, hv5, h5⟩ : kfPhi B 15 (a'.eval (.tmp 20)) W := he { on := 15, ground := Ground.data } (by simp) rfl
    obtain ⟨A6, n6, c6, hv6, h6⟩ : kfPhi B 18 (a'.eval (.tmp 23)) W := he { on := 18, ground := Ground.data } (by simp) rfl
    obtain ⟨A7, n7, c7, hv7, h7⟩ : kfPhi B 21 (a'.eval (.tmp 26)) W := he { on := 21, ground := Ground.data } (by simp) rfl
    obtain ⟨A8, n8, c8, hv8, h8⟩ : kfPhi B 24 (a'.eval (.tmp 29)) W := he { on := 24, ground := Ground.data } (by simp) rfl
    obtain ⟨A9, n9, c9, hv9, h9⟩ : kfPhi B 27 (a'.eval (.tmp 32)) W := he { on := 27, ground := Ground.data } (by simp) rfl
    obtain ⟨A10, n10, c10, hv10, h10⟩ : kfPhi B 30 (a'.eval (.tmp 35)) W := he { on := 30, ground := Ground.data } (by simp) rfl
    obtain ⟨A11, n11, c11, hv11, h11⟩ : kfPhi B 33 (a'.eval (.tmp 38)) W := he { on := 33, ground := Ground.data } (by simp) rfl
    obtain ⟨A12, n12, c12, hv12, h12⟩ : kfPhi B 36 (a'.eval (.tmp 41)) W := he { on := 36, ground := Ground.data } (by simp) rfl
    obtain ⟨A13, n13, c13, hv13, h13⟩ : kfPhi B 39 (a'.eval (.tmp 44)) W := he { on := 39, ground := Ground.data } (by simp) rfl
    obtain ⟨A14, n14, c14, hv14, h14⟩ : kfPhi B 42 (a'.eval (.tmp 47)) W := he { on := 42, ground := Ground.data } (by simp) rfl
    obtain ⟨A15, n15, c15, hv15, h15⟩ : kfPhi B 45 (a'.eval (.tmp 50)) W := he { on := 45, ground := Ground.data } (by simp) rfl
    obtain ⟨A16, n16, c16, hv16, h16⟩ : kfPhi B 48 (a'.eval (.tmp 53)) W := he { on := 48, ground := Ground.data } (by simp) rfl
    refine kf_step_run (v := .agg #[.string ⟨#[108, 111, 111, 107, 117, 112]⟩, .slice A0 n0 c0, .int .u8 2, .bool false, .bool false, .string ⟨#[100, 114, 97, 119]⟩, .slice A1 n1 c1, .int .u8 1, .bool false, .bool false, .string ⟨#[110, 101, 119]⟩, .slice A2 n2 c2, .int .u8 3, .bool false, .bool false, .string ⟨#[100, 114, 111, 112]⟩, .slice A3 n3 c3, .int .u8 0, .bool false, .bool false, .string ⟨#[97, 99, 113, 117, 105, 114, 101]⟩, .slice A4 n4 c4, .int .u8 4, .bool false, .bool true, .string ⟨#[120, 99, 104, 103]⟩, .slice A5 n5 c5, .int .u8 5, .bool false, .bool false, .string ⟨#[108, 111, 99, 107]⟩, .slice A6 n6 c6, .int .u8 0, .bool false, .bool false, .string ⟨#[117, 110, 108, 111, 99, 107]⟩, .slice A7 n7 c7, .int .u8 0, .bool true, .bool true, .string ⟨#[112, 117, 115, 104, 95, 102, 114, 111, 110, 116]⟩, .slice A8 n8 c8, .int .u8 6, .bool true, .bool true, .string ⟨#[112, 117, 115, 104, 95, 98, 97, 99, 107]⟩, .slice A9 n9 c9, .int .u8 6, .bool true, .bool true, .string ⟨#[112, 111, 112, 95, 102, 114, 111, 110, 116]⟩, .slice A10 n10 c10, .int .u8 7, .bool true, .bool true, .string ⟨#[112, 111, 112, 95, 98, 97, 99, 107]⟩, .slice A11 n11 c11, .int .u8 7, .bool true, .bool true, .string ⟨#[102, 114, 111, 110, 116]⟩, .slice A12 n12 c12, .int .u8 8, .bool true, .bool true, .string ⟨#[98, 97, 99, 107]⟩, .slice A13 n13 c13, .int .u8 8, .bool true, .bool true, .string ⟨#[97, 100, 100]⟩, .slice A14 n14 c14, .int .u8 6, .bool true, .bool true, .string ⟨#[114, 101, 109, 111, 118, 101]⟩, .slice A15 n15 c15, .int .u8 7, .bool true, .bool true, .string ⟨#[102, 105, 114, 115, 116]⟩, .slice A16 n16 c16, .int .u8 8, .bool true, .bool true]) (fun x => match x with | .tmp t => ([undef, undef, undef, undef, undef, undef, undef, .agg #[.string ⟨#[108, 111, 111, 107, 117, 112]⟩, .slice A0 n0 c0, .int .u8 2, .bool false, .bool false], undef, .agg #[.string ⟨#[100, 114, 97, 119]⟩, .slice A1 n1 c1, .int .u8 1, .bool false, .bool false], undef, undef, .agg #[.string ⟨#[110, 101, 119]⟩, .slice A2 n2 c2, .int .u8 3, .bool false, .bool false], undef, undef, .agg #[.string ⟨#[100, 114, 111, 112]⟩, .slice A3 n3 c3, .int .u8 0, .bool false, .bool false], undef, .agg #[.string ⟨#[97, 99, 113, 117, 105, 114, 101]⟩, .slice A4 n4 c4, .int .u8 4, .bool false, .bool true], undef, undef, .agg #[.string ⟨#[120, 99, 104, 103]⟩, .slice A5 n5 c5, .int .u8 5, .bool false, .bool false], undef, undef, .agg #[.string ⟨#[108, 111, 99, 107]⟩, .slice A6 n6 c6, .int .u8 0, .bool false, .bool false], undef, undef, .agg #[.string ⟨#[117, 110, 108, 111, 99, 107]⟩, .slice A7 n7 c7, .int .u8 0, .bool true, .bool true], undef, undef, .agg #[.string ⟨#[112, 117, 115, 104, 95, 102, 114, 111, 110, 116]⟩, .slice A8 n8 c8, .int .u8 6, .bool true, .bool true], undef, undef, .agg #[.string ⟨#[112, 117, 115, 104, 95, 98, 97, 99, 107]⟩, .slice A9 n9 c9, .int .u8 6, .bool true, .bool true], undef, undef, .agg #[.string ⟨#[112, 111, 112, 95, 102, 114, 111, 110, 116]⟩, .slice A10 n10 c10, .int .u8 7, .bool true, .bool true], undef, undef, .agg #[.string ⟨#[112, 111, 112, 95, 98, 97, 99, 107]⟩, .slice A11 n11 c11, .int .u8 7, .bool true, .bool true], undef, undef, .agg #[.string ⟨#[102, 114, 111, 110, 116]⟩, .slice A12 n12 c12, .int .u8 8, .bool true, .bool true], undef, undef, .agg #[.string ⟨#[98, 97, 99, 107]⟩, .slice A13 n13 c13, .int .u8 8, .bool true, .bool true], undef, undef, .agg #[.string ⟨#[97, 100, 100]⟩, .slice A14 n14 c14, .int .u8 6, .bool true, .bool true], undef, undef, .agg #[.string ⟨#[114, 101, 109, 111, 118, 101]⟩, .slice A15 n15 c15, .int .u8 7, .bool true, .bool true], undef, undef, .agg #[.string ⟨#[102, 105, 114, 115, 116]⟩, .slice A16 n16 c16, .int .u8 8, .bool true, .bool true]] : List Value).getD t undef | _ => undef) (fun cs b h => by cases h) (fun w => rfl) ?_ (by kernel_rfl) (hK _ _ (Below.refl _ W) (kf_hold_all B W A0 n0 c0 A1 n1 c1 A2 n2 c2 A3 n3 c3 A4 n4 c4 A5 n5 c5 A6 n6 c6 A7 n7 c7 A8 n8 c8 A9 n9 c9 A10 n10 c10 A11 n11 c11 A12 n12 c12 A13 n13 c13 A14 n14 c14 A15 n15 c15 A16 n16 c16 h0 h1 h2 h3 h4 h5 h6 h7 h8 h9 h10 h11 h12 h13 h14 h15 h16))
    intro x hx
    have hx' : x = .tmp 7 ∨ x = .tmp 9 ∨ x = .tmp 12 ∨ x = .tmp 15 ∨ x = .tmp 17 ∨ x = .tmp 20 ∨ x = .tmp 23 ∨ x = .tmp 26 ∨ x = .tmp 29 ∨ x = .tmp 32 ∨ x = .tmp 35 ∨ x = .tmp 38 ∨ x = .tmp 41 ∨ x = .tmp 44 ∨ x = .tmp 47 ∨ x = .tmp 50 ∨ x = .tmp 53 := by simpa [Op.operands] using hx
    rcases hx' with rfl | rfl | rfl | rfl | rfl | rfl | rfl | rfl | rfl | rfl | rfl | rfl | rfl | rfl | rfl | rfl | rfl
    · exact hv0
    · exact hv1
    · exact hv2
    · exact hv3
    · exact hv4
    · exact hv5
    · exact hv6
    · exact hv7
    · exact hv8
    · exact hv9
    · exact hv10
    · exact hv11
    · exact hv12
    · exact hv13
    · exact hv14
    · exact hv15
    · exact hv16
  · intro a' W hBW hs hold he K hK
    unfold Oper.wpIn
    simp [go_sem]
    exact hK _ _ (Below.refl _ W) rfl

end Go.Proofs.Ytdlgipoaimgbpaa
