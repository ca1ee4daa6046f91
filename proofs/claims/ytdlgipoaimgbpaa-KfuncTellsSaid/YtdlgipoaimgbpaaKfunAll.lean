import Derived.Test.YtdlgipoaimgbpaaKfun
/-! kfunc.all and the iterator that it gives. -/
namespace Go.Proofs.Ytdlgipoaimgbpaa
open Go.RowKit Go.Shelf
attribute [local go_sem] Oper.semAt_some
set_option maxHeartbeats 4000000
set_option maxRecDepth 100000
set_option linter.unusedSimpArgs false
set_option linter.unusedVariables false

/-- What a round is handed: which of the functions, and the slice of its arguments. -/
structure KX where
  i : Nat
  sl : Value

def kfOf (i : Nat) : KF := kfs.getD i KF.none

def KX.encs (x : KX) : Array Value := #[.int .i32 (x.i + 1), .agg ((kfOf x.i).cells x.sl).toArray]

def KX.fact (B : Nat) (pre : List KX) (x : KX) (W : World) : Prop := x.i = pre.length ∧ x.i < 17 ∧ Arg B (kfOf x.i).args x.sl W

def KX.keep (_ : KX) (W W' : World) : Prop := ∀ (k : Nat) (c : Array Value) (t : TypeId), W.heap[k]? = some (.cells c t) → W'.heap[k]? = some (.cells c t)

theorem Arg.kept {B : Nat} {l : List Int} {v : Value} {W W' : World} (h : Arg B l v W) (x : KX) (hk : x.keep W W') : Arg B l v W' := by
  rcases h with ⟨h1, h2⟩ | ⟨b, h1, h2, h3⟩
  · exact .inl ⟨h1, h2⟩
  · exact .inr ⟨b, h1, h2, hk _ _ _ h3⟩

theorem kf_all (w : World) : Calls Try.prog 50 #[] w fun e w' =>
    ∃ ba sa, e = .returned (.func (.func 64) #[] #[.pointer (some ⟨ba, 0, none⟩)]) ∧ w'.heap[ba]? = some (.cells #[sa, .int .u8 4, .bool false, .bool true] 37) ∧ Arg w.heap.size [5] sa w' ∧ Below w.heap.size w w' := by
  go_enter Try.func50, Try.ntmps50
  go_wp2_with fail
  refine (kf_free _ _ _ _ _).mono ?_
  rintro e w1 ⟨rfl, hb⟩
  go_wp2_with fail
  go_ret
  refine ⟨w1.heap.size, _, rfl, World.alloc_heap_new _ _, .inr ⟨w.heap.size, Nat.le_refl _, rfl, ?_⟩, ((((Below.refl _ w).alloc (Nat.le_refl _) _).trans (hb.mono (by simp)))).alloc (by have := hb.size; simp at this; omega) _⟩
  rw [Below.heap_alloc _ _ _ (by have := hb.size; simp at this; omega), hb.block _ (by simp)]
  exact World.alloc_heap_new _ _

theorem arr_lit (t : Array Value) : t = ((List.range t.size).map fun i => t.getD i undef).toArray := by
  apply Array.ext
  · simp
  · intro i h1 h2
    simp [h1]

-- KACT
theorem kf_act (t : Array Value) (y p V : Value) (hsz : t.size = 67) (h0 : t[0]? = some y) (h1 : t[1]? = some p) (hV : t.getD 54 undef = V) (hz : t.getD 55 undef = .int .i64 0) (hu : ∀ i, (2 ≤ i ∧ i < 5) ∨ (56 ≤ i ∧ i < 67) → t[i]? = some undef) :
    ∃ x5 x6 x7 x8 x9 x10 x11 x12 x13 x14 x15 x16 x17 x18 x19 x20 x21 x22 x23 x24 x25 x26 x27 x28 x29 x30 x31 x32 x33 x34 x35 x36 x37 x38 x39 x40 x41 x42 x43 x44 x45 x46 x47 x48 x49 x50 x51 x52 x53, t = #[y, p, undef, undef, undef, x5, x6, x7, x8, x9, x10, x11, x12, x13, x14, x15, x16, x17, x18, x19, x20, x21, x22, x23, x24, x25, x26, x27, x28, x29, x30, x31, x32, x33, x34, x35, x36, x37, x38, x39, x40, x41, x42, x43, x44, x45, x46, x47, x48, x49, x50, x51, x52, x53, V, .int .i64 0, undef, undef, undef, undef, undef, undef, undef, undef, undef, undef, undef] := by
  have e := arr_lit t
  rw [hsz] at e
  simp only [show List.range 67 = [0, 1, 2, 3, 4, 5, 6, 7, 8, 9, 10, 11, 12, 13, 14, 15, 16, 17, 18, 19, 20, 21, 22, 23, 24, 25, 26, 27, 28, 29, 30, 31, 32, 33, 34, 35, 36, 37, 38, 39, 40, 41, 42, 43, 44, 45, 46, 47, 48, 49, 50, 51, 52, 53, 54, 55, 56, 57, 58, 59, 60, 61, 62, 63, 64, 65, 66] from rfl, List.map_cons, List.map_nil] at e
  have g0 : t.getD 0 undef = y := by simp [Array.getD_eq_getD_getElem?, h0]
  have g1 : t.getD 1 undef = p := by simp [Array.getD_eq_getD_getElem?, h1]
  have g2 : t.getD 2 undef = undef := by simp [Array.getD_eq_getD_getElem?, hu 2 (by omega)]
  have g3 : t.getD 3 undef = undef := by simp [Array.getD_eq_getD_getElem?, hu 3 (by omega)]
  have g4 : t.getD 4 undef = undef := by simp [Array.getD_eq_getD_getElem?, hu 4 (by omega)]
  have g56 : t.getD 56 undef = undef := by simp [Array.getD_eq_getD_getElem?, hu 56 (by omega)]
  have g57 : t.getD 57 undef = undef := by simp [Array.getD_eq_getD_getElem?, hu 57 (by omega)]
  have g58 : t.getD 58 undef = undef := by simp [Array.getD_eq_getD_getElem?, hu 58 (by omega)]
  have g59 : t.getD 59 undef = undef := by simp [Array.getD_eq_getD_getElem?, hu 59 (by omega)]
  have g60 : t.getD 60 undef = undef := by simp [Array.getD_eq_getD_getElem?, hu 60 (by omega)]
  have g61 : t.getD 61 undef = undef := by simp [Array.getD_eq_getD_getElem?, hu 61 (by omega)]
  have g62 : t.getD 62 undef = undef := by simp [Array.getD_eq_getD_getElem?, hu 62 (by omega)]
  have g63 : t.getD 63 undef = undef := by simp [Array.getD_eq_getD_getElem?, hu 63 (by omega)]
  have g64 : t.getD 64 undef = undef := by simp [Array.getD_eq_getD_getElem?, hu 64 (by omega)]
  have g65 : t.getD 65 undef = undef := by simp [Array.getD_eq_getD_getElem?, hu 65 (by omega)]
  have g66 : t.getD 66 undef = undef := by simp [Array.getD_eq_getD_getElem?, hu 66 (by omega)]
  refine ⟨t.getD 5 undef, t.getD 6 undef, t.getD 7 undef, t.getD 8 undef, t.getD 9 undef, t.getD 10 undef, t.getD 11 undef, t.getD 12 undef, t.getD 13 undef, t.getD 14 undef, t.getD 15 undef, t.getD 16 undef, t.getD 17 undef, t.getD 18 undef, t.getD 19 undef, t.getD 20 undef, t.getD 21 undef, t.getD 22 undef, t.getD 23 undef, t.getD 24 undef, t.getD 25 undef, t.getD 26 undef, t.getD 27 undef, t.getD 28 undef, t.getD 29 undef, t.getD 30 undef, t.getD 31 undef, t.getD 32 undef, t.getD 33 undef, t.getD 34 undef, t.getD 35 undef, t.getD 36 undef, t.getD 37 undef, t.getD 38 undef, t.getD 39 undef, t.getD 40 undef, t.getD 41 undef, t.getD 42 undef, t.getD 43 undef, t.getD 44 undef, t.getD 45 undef, t.getD 46 undef, t.getD 47 undef, t.getD 48 undef, t.getD 49 undef, t.getD 50 undef, t.getD 51 undef, t.getD 52 undef, t.getD 53 undef, e.trans ?_⟩
  rw [g0, g1, hV, hz, g2, g3, g4, g56, g57, g58, g59, g60, g61, g62, g63, g64, g65, g66]
-- KACT END

theorem kf_at (f : Nat → Value) (w : World) : ∀ k : Nat, k < 17 → (Instr.index 84 (.agg ((List.range 17).flatMap fun i => (kfs.getD i KF.none).cells (f i)).toArray) (.int .i64 k)).run Try.prog w = .ok (.agg ((kfOf k).cells (f k)).toArray) w := by
  intro k hk
  have hc : k = 0 ∨ k = 1 ∨ k = 2 ∨ k = 3 ∨ k = 4 ∨ k = 5 ∨ k = 6 ∨ k = 7 ∨ k = 8 ∨ k = 9 ∨ k = 10 ∨ k = 11 ∨ k = 12 ∨ k = 13 ∨ k = 14 ∨ k = 15 ∨ k = 16 := by omega
  rcases hc with rfl | rfl | rfl | rfl | rfl | rfl | rfl | rfl | rfl | rfl | rfl | rfl | rfl | rfl | rfl | rfl | rfl <;> (show _ = _; kernel_rfl)

theorem kf_all1 (n : Nat) (w0 : World) (B ba : Nat) (sa : Value) (hB : B ≤ w0.heap.size) (hba : w0.heap[ba]? = some (.cells #[sa, .int .u8 4, .bool false, .bool true] 37)) (hsa : Arg B [5] sa w0) :
    SeqOf Fence.wide n Try.prog 64 #[.pointer (some ⟨ba, 0, none⟩)] KX.encs (KX.fact B) KX.keep (fun xs _ => xs.length = 17) (fun _ _ => True) w0 := by
  intro l J Jx W hW hJ hJx hY h0
  refine callsIn_of_wp Try.func64 rfl trivial ?_ rfl
  simp only [Try.ntmps64, List.size_toArray, List.length_cons, List.length_nil, Nat.reduceAdd, Nat.reduceSub, Array.replicate_succ, Array.replicate_zero, List.push_toArray, List.append_toArray, List.nil_append, List.cons_append]
  gi_wp2
  refine wpIn_region_grows (by kernel_rfl) 5 51 (kfPhi B) (kfPhi_lasts B) rfl (by simp) (by kernel_rfl) (kf_steps n _ _ W B ba (Nat.le_trans hB hW.size) sa rfl ?_ ?_) ?_
  · exact (hW.block ba (Array.getElem?_eq_some_iff.1 hba).1).trans hba
  · exact hsa.belowOf hW
  intro a' W1 hb hs hd hold hh
  obtain ⟨f, hf, hF⟩ : Kind.Hold B .all (a'.eval (.tmp 54)) W1 := hh 49 (by omega)
  have hz : a'.eval (.tmp 55) = .int .i64 0 := hh 50 (by omega)
  obtain ⟨t, d⟩ := a'
  obtain rfl : d = [] := hd
  obtain ⟨V, hV⟩ : ∃ V, V = Value.agg ((List.range 17).flatMap fun i => (kfs.getD i KF.none).cells (f i)).toArray := ⟨_, rfl⟩
  have hidx := fun (w : World) (k : Nat) (hk : k < 17) => kf_at f w k hk
  rw [← hV] at hf hidx
  obtain ⟨x5, x6, x7, x8, x9, x10, x11, x12, x13, x14, x15, x16, x17, x18, x19, x20, x21, x22, x23, x24, x25, x26, x27, x28, x29, x30, x31, x32, x33, x34, x35, x36, x37, x38, x39, x40, x41, x42, x43, x44, x45, x46, x47, x48, x49, x50, x51, x52, x53, rfl⟩ := kf_act t (.func (.yield l) #[] #[]) (.pointer (some ⟨ba, 0, none⟩)) V (by rw [hs]; rfl) (hold 0 (by omega)) (hold 1 (by omega)) hf hz (fun i hi => (hold i (by omega)).trans (by
    have hc : i = 2 ∨ i = 3 ∨ i = 4 ∨ i = 56 ∨ i = 57 ∨ i = 58 ∨ i = 59 ∨ i = 60 ∨ i = 61 ∨ i = 62 ∨ i = 63 ∨ i = 64 ∨ i = 65 ∨ i = 66 := by omega
    rcases hc with rfl | rfl | rfl | rfl | rfl | rfl | rfl | rfl | rfl | rfl | rfl | rfl | rfl | rfl <;> rfl))
  clear hold hh hs hf hz
  have hg : W.grownBy W1 none := ⟨hb.os, hb.tape, hb.output, hb.size, fun k hk _ => hb.block k hk⟩
  have hJ1 := hJ _ _ _ h0 hg
  clear hV
  gi_wp2
  gi_loopw [55] (fun p wr => ∃ pre : List KX, p = .int .i64 pre.length ∧ pre.length ≤ 17 ∧ J pre wr ∧ ∀ i, i < 17 → Arg B (kfOf i).args (f i) wr) (fun p _ => 17 - (intOf p).toNat)
  case atStart => exact ⟨[], rfl, by simp, hJ1, hF⟩
  case round =>
    obtain ⟨pre, rfl, hle, hJp, hA⟩ := hrel
    by_cases hd : pre.length < 17
    · have hd' : decide ((pre.length : Int) < 17) = true := decide_eq_true (by omega)
      have hd'' : (pre.length : Int) < 17 := by omega
      have hk0 : (0 : Int) ≤ pre.length := by omega
      have hix := hidx wr pre.length hd
      have hak := hA pre.length hd
      obtain ⟨A, m, c, hfk⟩ := Arg.slice hak
      rw [hfk] at hak
      simp only [KF.cells, hfk] at hix
      clear hidx
      obtain ⟨W2, hW2⟩ : ∃ W2, W2 = wr.alloc (.cells #[.string (kfOf pre.length).name, .slice A m c, .int .u8 (kfOf pre.length).gives, .bool (kfOf pre.length).lk, .bool (kfOf pre.length).un] 70) := ⟨_, rfl⟩
      have hg2 : wr.grownBy W2 none := by rw [hW2]; exact World.grownBy_alloc _ _ _
      have hb2 : Below wr.heap.size wr W2 := ⟨hg2.os, hg2.tape, hg2.output, hg2.size, fun k hk => hg2.block k hk (by simp)⟩
      obtain ⟨fn, tmps, assign, body, hy, hR⟩ := hY pre ⟨pre.length, .slice A m c⟩ W2 (hJ _ _ _ hJp hg2) ⟨rfl, hd, Arg.below hak hb2⟩
      simp only [KX.encs, KF.cells] at hy
      have hA2 : ∀ i, i < 17 → Arg B (kfOf i).args (f i) W2 := fun i hi => (hA i hi).below hb2
      rw [hW2] at hy hR
      gi_wp2
      refine ⟨fun h => absurd h (by simp [Fence.wide]), ?_⟩
      refine hR.mono ?_
      rintro e W3 (⟨rfl, hJ3, hk3⟩ | ⟨rfl, hJx3⟩)
      · gi_wp2
        go_roundw
        case rel =>
          refine ⟨pre ++ [⟨pre.length, .slice A m c⟩], by simp, by simp; omega, hJ3, fun i hi => ?_⟩
          exact Arg.kept (hA2 i hi) ⟨pre.length, .slice A m c⟩ (hW2 ▸ hk3)
        case measure => simp [intOf]; omega
      · gi_wp2
        refine bodyPost_ret (results_none rfl _ _ _) rfl ?_
        exact ⟨⟨_, rfl⟩, .inr ⟨pre ++ [⟨pre.length, .slice A m c⟩], trivial, hJx3⟩⟩
    · have hd' : decide ((pre.length : Int) < 17) = false := decide_eq_false (by omega)
      gi_wp2
      go_end0
      exact ⟨⟨_, rfl⟩, .inl ⟨pre, by omega, hJp⟩⟩
end Go.Proofs.Ytdlgipoaimgbpaa
