import Derived.Test.YtjfcpajajaigfaaRefsC
/-! Package refs: the iterator's rounds. -/
namespace Go.Proofs.Ytjfcpajajaigfaa
open Go.RowKit Go.Maps Go.Shelf
attribute [local go_sem] Oper.semAt_some
set_option maxHeartbeats 2000000
set_option maxRecDepth 100000
set_option linter.unusedSimpArgs false
set_option linter.unusedVariables false

/-- The numbers of those of a kind, among the first i. -/
def nums (L : List Rf) (k : Int) : Nat → List Nat
  | 0 => []
  | i + 1 => match L[i]? with
    | some y => if y.k = k then nums L k i ++ [i + 1] else nums L k i
    | none => nums L k i

theorem nums_yes {L : List Rf} {k : Int} {i : Nat} {y : Rf} (h : L[i]? = some y) (hk : y.k = k) : nums L k (i + 1) = nums L k i ++ [i + 1] := by
  show (match L[i]? with | some y => if y.k = k then nums L k i ++ [i + 1] else nums L k i | none => nums L k i) = _
  rw [h]
  simp only []
  rw [if_pos hk]
theorem nums_no {L : List Rf} {k : Int} {i : Nat} {y : Rf} (h : L[i]? = some y) (hk : y.k ≠ k) : nums L k (i + 1) = nums L k i := by
  show (match L[i]? with | some y => if y.k = k then nums L k i ++ [i + 1] else nums L k i | none => nums L k i) = _
  rw [h]
  simp only []
  rw [if_neg hk]

/-- What a round is told: the number, and what came ahead of it. -/
def areFact (L : List Rf) (k : Int) (pre : List Nat) (x : Nat) (_ : World) : Prop := ∃ i y, x = i + 1 ∧ pre = nums L k i ∧ L[i]? = some y ∧ y.k = k
/-- What a round keeps: all of the row but this one's kind; the iterator's own. -/
def areKeep (g0 bk : Nat) (x : Nat) (W W' : World) : Prop := (∀ c v, c ≠ (x - 1) * 3 + 2 → W.cell? ⟨g0, c, none⟩ = some v → W'.cell? ⟨g0, c, none⟩ = some v) ∧ ∀ v, W.cell? ⟨bk, 0, none⟩ = some v → W'.cell? ⟨bk, 0, none⟩ = some v

/-- The row, from the i-th on. -/
def RowFrom (L : List Rf) (g0 bk : Nat) (k : Int) (i : Nat) (W : World) : Prop :=
  (∀ j y, i ≤ j → L[j]? = some y → W.cell? ⟨g0, j * 3, none⟩ = some (.int .i64 y.s) ∧ W.cell? ⟨g0, j * 3 + 1, none⟩ = some (.int .u64 y.g) ∧ W.cell? ⟨g0, j * 3 + 2, none⟩ = some (.int .u8 y.k)) ∧ W.cell? ⟨bk, 0, none⟩ = some (.int .u8 k)

theorem RowFrom.grown {L : List Rf} {g0 bk : Nat} {k : Int} {i : Nat} {W W' : World} (h : RowFrom L g0 bk k i W) (hb : Below W.heap.size W W') : RowFrom L g0 bk k i W' :=
  ⟨fun j y hj hy => by
    obtain ⟨a, b, c⟩ := h.1 j y hj hy
    exact ⟨(cell_below hb (World.block_lt_of_cell? W _ a)).trans a, (cell_below hb (World.block_lt_of_cell? W _ b)).trans b, (cell_below hb (World.block_lt_of_cell? W _ c)).trans c⟩, (cell_below hb (World.block_lt_of_cell? W _ h.2)).trans h.2⟩

theorem are_rounds (n : Nat) (w0 : World) (b bc bk N0 : Nat) (L : List Rf) (A : Option Addr) (g0 c : Nat) (k : Int) (hL : L.length ≤ 100000) (hb : Has w0 b 82 #[.bool true, .slice A L.length c]) (hown : w0.ownsRow N0 91 3 (.slice A L.length c) L.length (rowC Rf.enc L))
    (hA : 0 < L.length → A = some ⟨g0, 0, none⟩) (hbc : Has w0 bc 54 #[.pointer (some ⟨b, 0, none⟩)]) (hbk : Has w0 bk 5 #[.int .u8 k]) :
    SeqOf Fence.wide n Try.prog 39 #[.pointer (some ⟨bc, 0, none⟩), .pointer (some ⟨bk, 0, none⟩)] (fun x : Nat => #[.int .u64 (x : Int)]) (areFact L k) (areKeep g0 bk) (fun xs _ => xs = nums L k L.length) (fun _ _ => True) w0 := by
  intro l' J Jx W hW hJ hJx hY h0
  refine callsIn_of_wp Try.func39 rfl trivial ?_ rfl
  simp only [Try.ntmps39, List.size_toArray, List.length_cons, List.length_nil, Nat.reduceAdd, Nat.reduceSub, Array.replicate_succ, Array.replicate_zero, List.push_toArray, List.append_toArray, List.nil_append, List.cons_append]
  have hbW := hb.below hW hb.lt
  have c0 : W.cell? ⟨bc, 0, none⟩ = some (.pointer (some ⟨b, 0, none⟩)) := (hbc.below hW hbc.lt).cell 0
  have c1 : W.cell? ⟨b, 1, none⟩ = some (.slice A L.length c) := hbW.cell 1
  have hrow : RowFrom L g0 bk k 0 W := ⟨fun j y _ hy => by
    have hl : 0 < L.length := by have := (List.getElem?_eq_some_iff.1 hy).1; omega
    have hA2 := hA hl
    subst hA2
    exact (refs_at (b := b) (owns_below hown hW) hy).1, (hbk.below hW hbk.lt).cell 0⟩
  obtain ⟨N, hN⟩ : ∃ N, N = L.length := ⟨_, rfl⟩
  rw [← hN] at c1 hA hL
  have HN := hide hN
  have HR := hide hrow
  clear hrow hN hbW hown hb hbc hbk
  gi_wp2
  clear c0 c1
  gi_loopw [13] (fun p wr => ∃ i : Nat, p = .int .i64 i ∧ i ≤ N ∧ J (nums L k i) wr ∧ RowFrom L g0 bk k i wr) (fun p _ => N - (intOf p).toNat)
  case atStart => exact ⟨0, rfl, Nat.zero_le _, h0, HR.out⟩
  case round =>
    obtain ⟨i, rfl, hle, hJp, hrow⟩ := hrel
    clear HR
    by_cases hd : i < N
    · have hd' : decide ((i : Int) < (N : Int)) = true := decide_eq_true (by omega)
      have hii : (i : Int) < (N : Int) := by omega
      obtain ⟨y, hy⟩ : ∃ y, L[i]? = some y := ⟨_, List.getElem?_eq_getElem (by rw [← HN.out]; exact hd)⟩
      have hA2 := hA (by omega)
      subst hA2
      obtain ⟨a0, a1, a2⟩ := hrow.1 i y (Nat.le_refl _) hy
      have k0 := hrow.2
      have hkw : IntKind.i64.wrap ((i : Int) + 1) = (i : Int) + 1 := wrap_i64 (by omega) (by omega)
      have hkw2 : IntKind.u64.wrap ((i : Int) + 1) = (i : Int) + 1 := wrap_u64 (by omega) (by omega)
      have hkw3 : IntKind.u64.wrap (i : Int) = (i : Int) := wrap_u64 (by omega) (by omega)
      obtain ⟨W2, hW2⟩ : ∃ W2, W2 = wr.alloc (.cells #[.int .i64 y.s, .int .u64 y.g, .int .u8 y.k] 91) := ⟨_, rfl⟩
      have hg2 : wr.grownBy W2 none := by rw [hW2]; exact World.grownBy_alloc _ _ _
      have hb2 : Below wr.heap.size wr W2 := ⟨hg2.os, hg2.tape, hg2.output, hg2.size, fun k hk => hg2.block k hk (by simp)⟩
      have hrow2 := hrow.grown hb2
      have HROW := hide hrow2
      have HY := hide hy
      have k2 : W2.cell? ⟨bk, 0, none⟩ = some (.int .u8 k) := hrow2.2
      rw [hW2] at k2
      by_cases hk : y.k = k
      · obtain ⟨fn, tmps, assign, body, hyy, hR⟩ := hY (nums L k i) (i + 1) W2 (hJ _ _ _ hJp hg2) ⟨i, y, rfl, rfl, hy, hk⟩
        have hkb : (y.k == k) = true := by rw [hk]; simp
        have hcast : ((i + 1 : Nat) : Int) = (i : Int) + 1 := by omega
        simp only [hcast] at hyy
        have HNU := hide (nums_yes hy hk)
        have HW2 := hide hW2
        rw [hW2] at hyy hR
        rw [hk] at a2 hyy hR k2
        have HROW3 := hide (show RowFrom L g0 bk k i (wr.alloc (.cells #[.int .i64 y.s, .int .u64 y.g, .int .u8 k] 91)) by rw [← hk]; rw [← hW2]; rw [hk]; exact hrow2)
        generalize y.s = ys at *
        generalize y.g = yg at *
        clear hrow hrow2 hy hg2 hb2 hW2 hk hcast hkb HROW HW2
        gi_wp2
        refine ⟨fun h => absurd h (by simp [Fence.wide]), ?_⟩
        refine hR.mono ?_
        rintro e W3 (⟨rfl, hJ3, hk3⟩ | ⟨rfl, hJx3⟩)
        · gi_wp2
          go_roundw
          case rel =>
            refine ⟨i + 1, by simp, by omega, by rw [HNU.out]; exact hJ3, fun j z hj hz => ?_, hk3.2 _ HROW3.out.2⟩
            obtain ⟨b0, b1, b2⟩ := HROW3.out.1 j z (by omega) hz
            exact ⟨hk3.1 _ _ (by omega) b0, hk3.1 _ _ (by omega) b1, hk3.1 _ _ (by omega) b2⟩
          case measure => simp [intOf]; omega
        · gi_wp2
          refine bodyPost_ret (results_none rfl _ _ _) rfl ?_
          exact ⟨⟨_, rfl⟩, .inr ⟨_, trivial, hJx3⟩⟩
      · have hkb : (y.k == k) = false := beq_eq_false_iff_ne.2 hk
        have hJ2 := hJ _ _ _ hJp hg2
        have HNU := hide (nums_no hy hk)
        rw [hW2] at hJ2 hrow2
        have HJ2 := hide hJ2
        have HROW3 := hide hrow2
        generalize hyk : y.k = yk at a2 hkb HJ2 HROW3 k2
        generalize y.s = ys at a0 HJ2 HROW3 k2
        generalize y.g = yg at a1 HJ2 HROW3 k2
        clear hrow hrow2 hy hg2 hb2 hW2 hk HROW hJ2 hyk
        gi_wp2
        refine ⟨fun f h => (by cases h), ?_⟩
        gi_wp2
        go_roundw
        case rel =>
          refine ⟨i + 1, by simp, by omega, by rw [HNU.out]; exact HJ2.out, fun j z hj hz => HROW3.out.1 j z (by omega) hz, HROW3.out.2⟩
        case measure => simp [intOf]; omega
    · have hd' : decide ((i : Int) < (N : Int)) = false := decide_eq_false (by omega)
      have hiN : i = N := by omega
      gi_wp2
      go_end0
      exact ⟨⟨_, rfl⟩, .inl ⟨nums L k i, by rw [hiN, HN.out], hJp⟩⟩

end Go.Proofs.Ytjfcpajajaigfaa
