/- The law TypesLong, walked: it returns true at every number. -/
import Derived.Test.YtkflofjcjolehaaBig13
import Derived.Test.YtkflofjcjolehaaBig15
/-! Types: the tables that TypesLong asks for. -/
namespace Go.Proofs.Ytkflofjcjolehaa
open Go.RowKit Go.Proofs.YtkflofjcjolehaaW.PrintWords
set_option maxRecDepth 100000

def nmL (i : Nat) : ByteArray := ⟨#[116]⟩ ++ strOfNums [97 + (i : Int).tdiv 26, 97 + (i : Int).tmod 26]
def tblL (n : Nat) : List Tp := (List.range n).map fun i => ⟨nmL i, 8, []⟩
def flL (i : Nat) : Fl := ⟨⟨#[102]⟩ ++ strOfNums [97 + (i : Int)], 3, 16 * (i : Int).tmod 8, 0, 0⟩
def flsL (k : Nat) : List Fl := (List.range k).map flL
def tyL (k : Nat) : Tp := ⟨⟨#[116]⟩, 128, flsL k⟩
theorem long_tbl : ∀ n, n < 48 → (checkF (tblL n)).2.2 = (if n ≤ 32 then 0 else 4) ∧ (n ≤ 32 ∨ (checkF (tblL n)).1 = 32) := by decide +kernel
theorem long_fls : ∀ k, k < 12 → (checkF [tyL k]).2.2 = (if k ≤ 8 then (if k = 0 then (checkF [tyL k]).2.2 else 0) else 4) ∧ (k ≤ 8 ∨ (checkF [tyL k]).2.1 = 8) := by decide +kernel
theorem long_sz : (checkF [⟨⟨#[116]⟩, 120, []⟩]).2.2 = 0 ∧ (checkF [⟨⟨#[116]⟩, 128, []⟩]).2.2 = 0 ∧ (checkF [⟨⟨#[116]⟩, 136, []⟩]).2.2 = 101 := by decide +kernel
theorem long_ok : ∀ n, n < 48 → okTps (tblL n) = true := by decide +kernel
theorem long_okf : ∀ k, k < 12 → okTps [tyL k] = true := by decide +kernel
theorem long_oks : okTps [⟨⟨#[116]⟩, 120, []⟩] = true ∧ okTps [⟨⟨#[116]⟩, 128, []⟩] = true ∧ okTps [⟨⟨#[116]⟩, 136, []⟩] = true := by decide +kernel
end Go.Proofs.Ytkflofjcjolehaa

/-! Types: Long. -/
namespace Go.Proofs.Ytkflofjcjolehaa
open Go.RowKit Go.Proofs.YtkflofjcjolehaaW.PrintWords
set_option maxHeartbeats 40000000
set_option maxRecDepth 100000
set_option linter.unusedSimpArgs false
set_option linter.unusedVariables false

theorem one_C {W : World} {g n c : Nat} {nm : ByteArray} {sz : Int} {A : Option Addr} {fs : List Fl} (h : Has W g 44 #[.string nm, .int .i64 sz, .slice A n c]) (hl : fs.length = n) (hle : n ≤ c) (hC : kF.C W A n fs) : kT.C W (some ⟨g, 0, none⟩) 1 [⟨nm, sz, fs⟩] := by
  subst hl
  refine ⟨rfl, by omega, fun _ => ⟨_, rfl, fun j p hj => ?_⟩⟩
  obtain ⟨hj0, hp⟩ : j = 0 ∧ p = ⟨nm, sz, fs⟩ := by
    cases j with
    | zero => exact ⟨rfl, (Option.some.inj hj).symm⟩
    | succ j => simp at hj
  subst hj0 hp
  refine ⟨[.string nm, .int .i64 sz, .slice A fs.length c], rfl, ⟨_, _, rfl, rfl, _, _, rfl, rfl, A, c, rfl, hle, hC⟩, fun i u hu => ?_⟩
  have hadd : (⟨g, 0, none⟩ : Addr).add i = ⟨g, i, none⟩ := by unfold Addr.add; split <;> simp_all
  rw [Nat.zero_mul, Nat.zero_add, hadd, h.cell i]
  simpa using hu

theorem long_walk (w : World) (a : Int) (wa : (Lit.int .i8 a).wf = true) :
    Calls Try.prog 6 #[.int .i8 a] w fun e w' => e = .returned (.bool true) ∧ Below w.heap.size w w' := by
  clear wa
  obtain ⟨m, hm⟩ : ∃ m, a.tmod 16 = m := ⟨_, rfl⟩
  obtain ⟨q, hq⟩ : ∃ q, a.tmod 4 = q := ⟨_, rfl⟩
  obtain ⟨r, hr⟩ : ∃ r, a.tmod 2 = r := ⟨_, rfl⟩
  have m1 : -15 ≤ m ∧ m ≤ 15 := by have := Int.tmod_lt_of_pos a (show (0 : Int) < 16 by omega); have := Int.lt_tmod_of_pos a (show (0 : Int) < 16 by omega); omega
  have q1 : -3 ≤ q ∧ q ≤ 3 := by have := Int.tmod_lt_of_pos a (show (0 : Int) < 4 by omega); have := Int.lt_tmod_of_pos a (show (0 : Int) < 4 by omega); omega
  have r1 : r = -1 ∨ r = 0 ∨ r = 1 := by have := Int.tmod_lt_of_pos a (show (0 : Int) < 2 by omega); have := Int.lt_tmod_of_pos a (show (0 : Int) < 2 by omega); omega
  obtain ⟨N, hN⟩ : ∃ N : Nat, 32 + m = (N : Int) := ⟨(32 + m).toNat, by omega⟩
  have n1 : 17 ≤ N ∧ N < 48 := by omega
  obtain ⟨M, hM⟩ : ∃ M : Nat, 8 + q = (M : Int) := ⟨(8 + q).toNat, by omega⟩
  have k1 : 5 ≤ M ∧ M < 12 := by omega
  have hm8 : IntKind.i8.wrap m = m := by unfold IntKind.wrap; simp [IntKind.bits, IntKind.signed]; omega
  have hm64 : IntKind.i64.wrap m = m := by unfold IntKind.wrap; simp [IntKind.bits, IntKind.signed]; omega
  have hN64 : IntKind.i64.wrap (32 + m) = (N : Int) := by unfold IntKind.wrap; simp [IntKind.bits, IntKind.signed]; omega
  have HN := hide n1
  have HM := hide k1
  have HQ := hide q1
  have HHQ := hide hq
  have HHM := hide hM
  have HHR := hide hr
  have HR := hide r1
  clear hM hN n1 k1 q1 hq hr r1 m1
  go_enter Try.func6, Try.ntmps6
  go_wp2_with fail
  go_loopw [4, 5] (fun v x wr => ∃ j : Nat, j ≤ N ∧ x = .int .i64 j ∧ kT.R 44 wr w.heap.size (fun _ => True) v (tblL j) ∧ Below w.heap.size w wr) (fun _ x _ => N - (intOf x).toNat)
  case atStart => exact ⟨0, Nat.zero_le _, rfl, Kd.R_nil _ _ _ _ _, Below.refl _ _⟩
  case round =>
    obtain ⟨j, hj, rfl, hR, hB⟩ := hrel
    have HRW := hide hR
    have HBW := hide hB
    clear hR hB
    by_cases hjN : j < N
    · have hi1 : (j : Int) < N := by omega
      have hN48 := HN.out.2
      obtain ⟨d, hd⟩ : ∃ d, (j : Int).tdiv 26 = d := ⟨_, rfl⟩
      obtain ⟨e, he⟩ : ∃ e, (j : Int).tmod 26 = e := ⟨_, rfl⟩
      have hd0 : 0 ≤ d ∧ d ≤ 47 := by rw [← hd, Int.tdiv_eq_ediv_of_nonneg (by omega)]; omega
      have he0 : 0 ≤ e ∧ e ≤ 25 := by rw [← he, Int.tmod_eq_emod_of_nonneg (by omega)]; omega
      have w1 : IntKind.i64.wrap d = d := by unfold IntKind.wrap; simp [IntKind.bits, IntKind.signed]; omega
      have w2 : IntKind.i64.wrap e = e := by unfold IntKind.wrap; simp [IntKind.bits, IntKind.signed]; omega
      have w3 : IntKind.i64.wrap (97 + d) = 97 + d := by unfold IntKind.wrap; simp [IntKind.bits, IntKind.signed]; omega
      have w4 : IntKind.i64.wrap (97 + e) = 97 + e := by unfold IntKind.wrap; simp [IntKind.bits, IntKind.signed]; omega
      have w5 : IntKind.u8.wrap (97 + d) = 97 + d := by unfold IntKind.wrap; simp [IntKind.bits, IntKind.signed]; omega
      have w6 : IntKind.u8.wrap (97 + e) = 97 + e := by unfold IntKind.wrap; simp [IntKind.bits, IntKind.signed]; omega
      have w7 : IntKind.i64.wrap ((j : Int) + 1) = (j : Int) + 1 := by unfold IntKind.wrap; simp [IntKind.bits, IntKind.signed]; omega
      have HD := hide hd0
      have HE := hide he0
      have HJ := hide hjN
      clear hd0 he0 hjN hN48
      have hcv : Sem.run Try.prog (convert 41 9 (.slice (some ⟨wr.heap.size, 0, none⟩) 2 2)) (wr.alloc (.cells #[.int .u8 (97 + d), .int .u8 (97 + e)] 5)) = .ok (.string (strOfNums [97 + d, 97 + e])) (wr.alloc (.cells #[.int .u8 (97 + d), .int .u8 (97 + e)] 5)) :=
        own_string (base := w.heap.size) (e' := 5) Try.underlying41 Try.underlying5 Try.underlying9 (World.ownsRow_lit (size := 1) wr #[.int .u8 (97 + d), .int .u8 (97 + e)] 2 HBW.out.size (by unfold maxLen; omega) rfl)
      have HBX := hide (below_trans' HBW.out (below_box wr (.cells #[.int .u8 (97 + d), .int .u8 (97 + e)] 5)) HBW.out.size)
      have HRX := hide (Kd.R_below HRW.out (below_box wr (.cells #[.int .u8 (97 + d), .int .u8 (97 + e)] 5)))
      have hszW : Hid ((wr.alloc (.cells #[.int .u8 (97 + d), .int .u8 (97 + e)] 5)).heap.size = wr.heap.size + 1) := hide (by simp)
      obtain ⟨nm, hnm⟩ : ∃ nm, ⟨#[116]⟩ ++ strOfNums [97 + d, 97 + e] = nm := ⟨_, rfl⟩
      have haP : Hid (kT.M (wr.alloc (.cells #[.int .u8 (97 + d), .int .u8 (97 + e)] 5)) w.heap.size (fun _ => False) ⟨nm, 8, []⟩ [.string nm, .int .i64 8, .slice none 0 0]) := hide ⟨_, _, rfl, rfl, _, _, rfl, rfl, .slice none 0 0, rfl, Kd.R_nil _ _ _ _ _⟩
      have haL : Hid (((tblL j).length + 1) * 48 ≤ 140737488355328) := hide (by unfold tblL; rw [List.length_map, List.length_range]; have := HN.out.2; omega)
      go_wp2_with (at_builtin; refine Kd.R_append kT (w0 := w) w.heap.size rfl (.tmp 27) (.tmp 40) 22 44 (.agg #[.string ⟨#[]⟩, .int .i64 0, .slice none 0 0]) 48 rfl Try.underlying22 infoT rfl (by decide) (by omega) u4 (tblL j) ⟨nm, 8, []⟩ [.string nm, .int .i64 8, .slice none 0 0] (fun _ => True) (fun _ => False) rfl (by first | rfl | (rw [hszW.out]; rfl)) haP.out (fun _ hk => hk.elim) (fun _ _ => trivial) HRX.out HBX.out HBX.out.size haL.out ?_; intro v1 w1 hR1 hB1 hg1 hat1; have hHR1 := hide hR1; have hHB1 := hide hB1; clear hR1 hB1 hg1 hat1)
      go_roundw
      case rel =>
        refine ⟨j + 1, HJ.out, by rw [show (((j + 1 : Nat)) : Int) = (j : Int) + 1 by omega], ?_, hHB1.out⟩
        have e1 : tblL (j + 1) = tblL j ++ [⟨nm, 8, []⟩] := by
          unfold tblL
          rw [List.range_succ, List.map_append, ← hnm, ← hd, ← he]
          rfl
        rw [e1]
        exact hHR1.out
      case measure => have := HJ.out; simp [intOf]; omega
    · have hi1 : ¬ (j : Int) < N := by omega
      obtain rfl : j = N := by omega
      have hjN0 := hide hjN
      clear hjN hj
      obtain ⟨A, c, rfl, hle, hC⟩ := Kd.R_reads HRW.out
      have hlen : (tblL j).length = j := by unfold tblL; rw [List.length_map, List.length_range]
      rw [hlen] at hle hC
      have HCK := ty_check wr A c (tblL j) j hlen hC hle (long_ok j HN.out.2)
      have HLT := hide (long_tbl j HN.out.2)
      obtain ⟨x1, hx1⟩ : ∃ x, (checkF (tblL j)).1 = x := ⟨_, rfl⟩
      obtain ⟨x2, hx2⟩ : ∃ x, (checkF (tblL j)).2.1 = x := ⟨_, rfl⟩
      obtain ⟨x3, hx3⟩ : ∃ x, (checkF (tblL j)).2.2 = x := ⟨_, rfl⟩
      rw [hx1, hx2, hx3] at HCK
      rw [hx1, hx3] at HLT
      have HK := hide HCK
      rw [hlen]
      clear hlen hx1 hx2 hx3 hC hle HCK HRW
      go_wp2_with fail
      refine HK.out.mono ?_
      rintro e w1 ⟨rfl, hB1⟩
      have HB1 := hide (bel_trans HBW.out hB1)
      clear hB1 HBW HK
      obtain ⟨hq, hM⟩ : a.tmod 4 = q ∧ 8 + q = (M : Int) := ⟨HHQ.out, HHM.out⟩
      have hq8 : IntKind.i8.wrap q = q := by have := HQ.out; unfold IntKind.wrap; simp [IntKind.bits, IntKind.signed]; omega
      have hq64 : IntKind.i64.wrap q = q := by have := HQ.out; unfold IntKind.wrap; simp [IntKind.bits, IntKind.signed]; omega
      have hM64 : IntKind.i64.wrap (8 + q) = (M : Int) := by have := HM.out; unfold IntKind.wrap; simp [IntKind.bits, IntKind.signed]; omega
      clear hM
      go_wp2_with fail
      obtain ⟨g, hg⟩ : ∃ g, w1.heap.size = g := ⟨_, rfl⟩
      have hG0 : Has (w1.alloc (Obj.cells #[.string ⟨#[116]⟩, .int .i64 128, .slice none 0 0] 44)) g 44 #[.string ⟨#[116]⟩, .int .i64 128, .slice none 0 0] := by rw [← hg]; exact Has.new _ _ _
      have hgw : w.heap.size ≤ g := by rw [← hg]; exact HB1.out.size
      have hG1 : Below w.heap.size w (w1.alloc (Obj.cells #[.string ⟨#[116]⟩, .int .i64 128, .slice none 0 0] 44)) := below_trans' HB1.out (below_box _ _) HB1.out.size
      have HG0 := hide hG0
      have HG1 := hide hG1
      have HGW := hide hgw
      rw [hg]
      clear hG0 hG1 hgw hg hi1
      go_loopw [11] (fun x wr => ∃ (k : Nat) (v : Value), k ≤ M ∧ x = .int .i64 k ∧ Has wr g 44 #[.string ⟨#[116]⟩, .int .i64 128, v] ∧ kF.R 46 wr w.heap.size (fun q => g < q) v (flsL k) ∧ Below w.heap.size w wr) (fun x _ => M - (intOf x).toNat)
      case atStart => exact ⟨0, .slice none 0 0, Nat.zero_le _, rfl, HG0.out, Kd.R_nil _ _ _ _ _, HG1.out⟩
      case round =>
        clear HG0 HG1 HB1
        obtain ⟨k, v, hk, rfl, hH, hR, hB⟩ := hrel
        have HH := hide hH
        have HRW := hide hR
        have HBW := hide hB
        clear hH hR hB
        have c0 := HH.out.cell 0
        have c1 := HH.out.cell 1
        have c2 := HH.out.cell 2
        simp at c0 c1 c2
        by_cases hkM : k < M
        · have hi1 : (k : Int) < M := by omega
          obtain ⟨e, he⟩ : ∃ e, (k : Int).tmod 8 = e := ⟨_, rfl⟩
          have he0 : 0 ≤ e ∧ e ≤ 7 := by rw [← he, Int.tmod_eq_emod_of_nonneg (by omega)]; omega
          have hk12 : k < 12 := by have := HM.out.2; omega
          have w1 : IntKind.i64.wrap e = e := by unfold IntKind.wrap; simp [IntKind.bits, IntKind.signed]; omega
          have w2 : IntKind.i64.wrap (16 * e) = 16 * e := by unfold IntKind.wrap; simp [IntKind.bits, IntKind.signed]; omega
          have w3 : IntKind.i64.wrap (97 + (k : Int)) = 97 + (k : Int) := by unfold IntKind.wrap; simp [IntKind.bits, IntKind.signed]; omega
          have w5 : IntKind.u8.wrap (97 + (k : Int)) = 97 + (k : Int) := by unfold IntKind.wrap; simp [IntKind.bits, IntKind.signed]; omega
          have w7 : IntKind.i64.wrap ((k : Int) + 1) = (k : Int) + 1 := by unfold IntKind.wrap; simp [IntKind.bits, IntKind.signed]; omega
          have HJ := hide hkM
          have HK := hide hk12
          clear he0 hkM hk hk12
          have hcv : Sem.run Try.prog (convert 41 9 (.slice (some ⟨wr.heap.size, 0, none⟩) 1 1)) (wr.alloc (.cells #[.int .u8 (97 + (k : Int))] 5)) = .ok (.string (strOfNums [97 + (k : Int)])) (wr.alloc (.cells #[.int .u8 (97 + (k : Int))] 5)) :=
            own_string (base := w.heap.size) (e' := 5) Try.underlying41 Try.underlying5 Try.underlying9 (World.ownsRow_lit (size := 1) wr #[.int .u8 (97 + (k : Int))] 1 HBW.out.size (by unfold maxLen; omega) rfl)
          have HBX := hide (below_trans' HBW.out (below_box wr (.cells #[.int .u8 (97 + (k : Int))] 5)) HBW.out.size)
          have HRX := hide (Kd.R_below HRW.out (below_box wr (.cells #[.int .u8 (97 + (k : Int))] 5)))
          have HHX := hide (HH.out.alloc (.cells #[.int .u8 (97 + (k : Int))] 5))
          have hszW : Hid ((wr.alloc (.cells #[.int .u8 (97 + (k : Int))] 5)).heap.size = wr.heap.size + 1) := hide (by simp)
          obtain ⟨nm, hnm⟩ : ∃ nm, ⟨#[102]⟩ ++ strOfNums [97 + (k : Int)] = nm := ⟨_, rfl⟩
          have haP : Hid (kF.M (wr.alloc (.cells #[.int .u8 (97 + (k : Int))] 5)) w.heap.size (fun _ => False) ⟨nm, 3, 16 * e, 0, 0⟩ [.string nm, .int .u8 3, .int .i64 (16 * e), .int .i64 0, .int .i64 0]) := hide ⟨_, _, rfl, rfl, _, _, rfl, rfl, _, _, rfl, rfl, _, _, rfl, rfl, rfl⟩
          have haL : Hid (((flsL k).length + 1) * 48 ≤ 140737488355328) := hide (by unfold flsL; rw [List.length_map, List.length_range]; have := HK.out; omega)
          have haF : Hid (∀ q, (wr.alloc (.cells #[.int .u8 (97 + (k : Int))] 5)).heap.size ≤ q → g < q) := hide (fun q hq => by have := HHX.out.lt; omega)
          go_wp2_with (at_builtin; refine Kd.R_append kF (w0 := w) w.heap.size rfl (.tmp 59) (.tmp 70) 42 46 (.agg #[.string ⟨#[]⟩, .int .u8 0, .int .i64 0, .int .i64 0, .int .i64 0]) 48 rfl Try.underlying42 infoF rfl (by decide) (by omega) v (flsL k) ⟨nm, 3, 16 * e, 0, 0⟩ [.string nm, .int .u8 3, .int .i64 (16 * e), .int .i64 0, .int .i64 0] (fun q => g < q) (fun _ => False) rfl (by first | rfl | (rw [hszW.out]; rfl)) haP.out (fun _ hk => hk.elim) haF.out HRX.out HBX.out HBX.out.size haL.out ?_; intro v1 w1 hR1 hB1 hg1 hat1; obtain ⟨Av, cv, hv1⟩ := Kd.R_slice hR1; rw [List.length_append, List.length_singleton] at hv1; subst hv1; have HH1 := hide (show Has w1 g 44 #[.string ⟨#[116]⟩, .int .i64 128, v] from (hg1.block g HHX.out.lt (fun e => by have := HRX.out.1 g e.symm; omega)).trans HHX.out); have k2 := HH1.out.cell 2; have kf2 := HH1.out.free 2; simp at k2; have hHR1 := hide hR1; have hHB1 := hide hB1; clear hR1 hB1 hg1 hat1)
          go_roundw
          case rel =>
            refine ⟨k + 1, _, HJ.out, by rw [show (((k + 1 : Nat)) : Int) = (k : Int) + 1 by omega], HH1.out.set 2 _, ?_, hHB1.out.setCell HGW.out _⟩
            have e1 : flsL (k + 1) = flsL k ++ [⟨nm, 3, 16 * e, 0, 0⟩] := by
              unfold flsL
              rw [List.range_succ, List.map_append, ← hnm, ← he]
              rfl
            rw [e1]
            exact Kd.R_far (p := ⟨g, 2, none⟩) hHR1.out (fun k hk => Nat.ne_of_gt hk) _
          case measure => have := HJ.out; simp [intOf]; omega
        · have hi1 : ¬ (k : Int) < M := by omega
          obtain rfl : k = M := by omega
          clear hkM hk
          obtain ⟨A2, c3, rfl, hle, hC⟩ := Kd.R_reads HRW.out
          have hlen : (flsL k).length = k := by unfold flsL; rw [List.length_map, List.length_range]
          rw [hlen] at hle hC c2
          have HH2 := hide HH.out
          rw [hlen] at HH2
          have HLE := hide hle
          have HC2 := hide hC
          have HL2 := hide hlen
          have hcu : Below wr.heap.size wr wr := Below.refl _ _
          have HLF := hide (long_fls k HM.out.2)
          obtain ⟨y1, hy1⟩ : ∃ x, (checkF [tyL k]).1 = x := ⟨_, rfl⟩
          obtain ⟨y2, hy2⟩ : ∃ x, (checkF [tyL k]).2.1 = x := ⟨_, rfl⟩
          obtain ⟨y3, hy3⟩ : ∃ x, (checkF [tyL k]).2.2 = x := ⟨_, rfl⟩
          have HCK := hide (fun W (b : Nat) (hW : Below wr.heap.size wr W) (hb : Has W b 44 #[.string ⟨#[116]⟩, .int .i64 128, .slice A2 k c3]) => ty_check W (some ⟨b, 0, none⟩) 1 [tyL k] 1 rfl (one_C hb hlen hle (Kd.C_below hC hW)) (Nat.le_refl _) (long_okf k HM.out.2))
          rw [hy1, hy2, hy3] at HCK
          rw [hy2, hy3] at HLF
          clear hlen hle hC hcu hy1 hy2 hy3 HRW HH
          go_wp2_with fail
          refine (HCK.out _ _ (below_box wr _) (Has.new _ _ _)).mono ?_
          rintro e w2 ⟨rfl, hB2⟩
          have HB2 := hide (bel_trans (bel_trans HBW.out (below_box _ _)) hB2)
          clear hB2 HCK HBW HC2 HL2 HLE HH2 c0 c1 c2
          rcases HR.out with rfl | rfl | rfl
          · have hr := HHR.out
            have h1 : (1 : Nat) ≤ 1 := Nat.le_refl _
            have HCK := hide (ty_check (w2.alloc (.cells #[.string ⟨#[116]⟩, .int .i64 120, .slice none 0 0] 44)) (some ⟨w2.heap.size, 0, none⟩) 1 [⟨⟨#[116]⟩, 120, []⟩] 1 rfl (one_C (Has.new _ _ _) rfl (Nat.le_refl _) ⟨rfl, by omega, fun h => absurd h (by omega)⟩) h1 long_oks.1)
            obtain ⟨z1, hz1⟩ : ∃ x, (checkF [⟨⟨#[116]⟩, 120, []⟩]).1 = x := ⟨_, rfl⟩
            obtain ⟨z2, hz2⟩ : ∃ x, (checkF [⟨⟨#[116]⟩, 120, []⟩]).2.1 = x := ⟨_, rfl⟩
            have hz3 : (checkF [⟨⟨#[116]⟩, 120, []⟩]).2.2 = 0 := long_sz.1
            rw [hz1, hz2, hz3] at HCK
            clear hz1 hz2 hz3 h1
            by_cases hj : j ≤ 32
            · have d1 : decide ((j : Int) ≤ 32) = true := decide_eq_true (by omega)
              obtain rfl : x3 = 0 := by have := HLT.out.1; rw [if_pos hj] at this; exact this
              clear hj HLT
              by_cases hk : k ≤ 8
              · have d2 : decide ((k : Int) ≤ 8) = true := decide_eq_true (by omega)
                obtain rfl : y3 = 0 := by have := HLF.out.1; rw [if_pos hk, if_neg (by have := HM.out.1; omega)] at this; exact this
                clear hk HLF
                go_wp2_with fail
                refine HCK.out.mono ?_
                rintro e w4 ⟨rfl, hB4⟩
                have HB4 := hide (bel_trans (bel_trans HB2.out (below_box _ _)) hB4)
                clear hB4 HCK HB2
                go_wp2_with fail
                refine (law_alive _).mono ?_
                rintro e w5 ⟨rfl, hB5⟩
                go_wp2_with fail
                go_ret
                exact ⟨rfl, bel_trans HB4.out hB5⟩
              · have d2 : decide ((k : Int) ≤ 8) = false := decide_eq_false (by omega)
                obtain rfl : y3 = 4 := by have := HLF.out.1; rw [if_neg hk] at this; exact this
                obtain rfl : y2 = 8 := HLF.out.2.resolve_left hk
                clear hk HLF
                go_wp2_with fail
                refine HCK.out.mono ?_
                rintro e w4 ⟨rfl, hB4⟩
                have HB4 := hide (bel_trans (bel_trans HB2.out (below_box _ _)) hB4)
                clear hB4 HCK HB2
                go_wp2_with fail
                refine (law_alive _).mono ?_
                rintro e w5 ⟨rfl, hB5⟩
                go_wp2_with fail
                go_ret
                exact ⟨rfl, bel_trans HB4.out hB5⟩
            · have d1 : decide ((j : Int) ≤ 32) = false := decide_eq_false (by omega)
              obtain rfl : x3 = 4 := by have := HLT.out.1; rw [if_neg hj] at this; exact this
              obtain rfl : x1 = 32 := HLT.out.2.resolve_left hj
              clear hj HLT
              by_cases hk : k ≤ 8
              · have d2 : decide ((k : Int) ≤ 8) = true := decide_eq_true (by omega)
                obtain rfl : y3 = 0 := by have := HLF.out.1; rw [if_pos hk, if_neg (by have := HM.out.1; omega)] at this; exact this
                clear hk HLF
                go_wp2_with fail
                refine HCK.out.mono ?_
                rintro e w4 ⟨rfl, hB4⟩
                have HB4 := hide (bel_trans (bel_trans HB2.out (below_box _ _)) hB4)
                clear hB4 HCK HB2
                go_wp2_with fail
                refine (law_alive _).mono ?_
                rintro e w5 ⟨rfl, hB5⟩
                go_wp2_with fail
                go_ret
                exact ⟨rfl, bel_trans HB4.out hB5⟩
              · have d2 : decide ((k : Int) ≤ 8) = false := decide_eq_false (by omega)
                obtain rfl : y3 = 4 := by have := HLF.out.1; rw [if_neg hk] at this; exact this
                obtain rfl : y2 = 8 := HLF.out.2.resolve_left hk
                clear hk HLF
                go_wp2_with fail
                refine HCK.out.mono ?_
                rintro e w4 ⟨rfl, hB4⟩
                have HB4 := hide (bel_trans (bel_trans HB2.out (below_box _ _)) hB4)
                clear hB4 HCK HB2
                go_wp2_with fail
                refine (law_alive _).mono ?_
                rintro e w5 ⟨rfl, hB5⟩
                go_wp2_with fail
                go_ret
                exact ⟨rfl, bel_trans HB4.out hB5⟩
          · have hr := HHR.out
            have h1 : (1 : Nat) ≤ 1 := Nat.le_refl _
            have HCK := hide (ty_check (w2.alloc (.cells #[.string ⟨#[116]⟩, .int .i64 128, .slice none 0 0] 44)) (some ⟨w2.heap.size, 0, none⟩) 1 [⟨⟨#[116]⟩, 128, []⟩] 1 rfl (one_C (Has.new _ _ _) rfl (Nat.le_refl _) ⟨rfl, by omega, fun h => absurd h (by omega)⟩) h1 long_oks.2.1)
            obtain ⟨z1, hz1⟩ : ∃ x, (checkF [⟨⟨#[116]⟩, 128, []⟩]).1 = x := ⟨_, rfl⟩
            obtain ⟨z2, hz2⟩ : ∃ x, (checkF [⟨⟨#[116]⟩, 128, []⟩]).2.1 = x := ⟨_, rfl⟩
            have hz3 : (checkF [⟨⟨#[116]⟩, 128, []⟩]).2.2 = 0 := long_sz.2.1
            rw [hz1, hz2, hz3] at HCK
            clear hz1 hz2 hz3 h1
            by_cases hj : j ≤ 32
            · have d1 : decide ((j : Int) ≤ 32) = true := decide_eq_true (by omega)
              obtain rfl : x3 = 0 := by have := HLT.out.1; rw [if_pos hj] at this; exact this
              clear hj HLT
              by_cases hk : k ≤ 8
              · have d2 : decide ((k : Int) ≤ 8) = true := decide_eq_true (by omega)
                obtain rfl : y3 = 0 := by have := HLF.out.1; rw [if_pos hk, if_neg (by have := HM.out.1; omega)] at this; exact this
                clear hk HLF
                go_wp2_with fail
                refine HCK.out.mono ?_
                rintro e w4 ⟨rfl, hB4⟩
                have HB4 := hide (bel_trans (bel_trans HB2.out (below_box _ _)) hB4)
                clear hB4 HCK HB2
                go_wp2_with fail
                refine (law_alive _).mono ?_
                rintro e w5 ⟨rfl, hB5⟩
                go_wp2_with fail
                go_ret
                exact ⟨rfl, bel_trans HB4.out hB5⟩
              · have d2 : decide ((k : Int) ≤ 8) = false := decide_eq_false (by omega)
                obtain rfl : y3 = 4 := by have := HLF.out.1; rw [if_neg hk] at this; exact this
                obtain rfl : y2 = 8 := HLF.out.2.resolve_left hk
                clear hk HLF
                go_wp2_with fail
                refine HCK.out.mono ?_
                rintro e w4 ⟨rfl, hB4⟩
                have HB4 := hide (bel_trans (bel_trans HB2.out (below_box _ _)) hB4)
                clear hB4 HCK HB2
                go_wp2_with fail
                refine (law_alive _).mono ?_
                rintro e w5 ⟨rfl, hB5⟩
                go_wp2_with fail
                go_ret
                exact ⟨rfl, bel_trans HB4.out hB5⟩
            · have d1 : decide ((j : Int) ≤ 32) = false := decide_eq_false (by omega)
              obtain rfl : x3 = 4 := by have := HLT.out.1; rw [if_neg hj] at this; exact this
              obtain rfl : x1 = 32 := HLT.out.2.resolve_left hj
              clear hj HLT
              by_cases hk : k ≤ 8
              · have d2 : decide ((k : Int) ≤ 8) = true := decide_eq_true (by omega)
                obtain rfl : y3 = 0 := by have := HLF.out.1; rw [if_pos hk, if_neg (by have := HM.out.1; omega)] at this; exact this
                clear hk HLF
                go_wp2_with fail
                refine HCK.out.mono ?_
                rintro e w4 ⟨rfl, hB4⟩
                have HB4 := hide (bel_trans (bel_trans HB2.out (below_box _ _)) hB4)
                clear hB4 HCK HB2
                go_wp2_with fail
                refine (law_alive _).mono ?_
                rintro e w5 ⟨rfl, hB5⟩
                go_wp2_with fail
                go_ret
                exact ⟨rfl, bel_trans HB4.out hB5⟩
              · have d2 : decide ((k : Int) ≤ 8) = false := decide_eq_false (by omega)
                obtain rfl : y3 = 4 := by have := HLF.out.1; rw [if_neg hk] at this; exact this
                obtain rfl : y2 = 8 := HLF.out.2.resolve_left hk
                clear hk HLF
                go_wp2_with fail
                refine HCK.out.mono ?_
                rintro e w4 ⟨rfl, hB4⟩
                have HB4 := hide (bel_trans (bel_trans HB2.out (below_box _ _)) hB4)
                clear hB4 HCK HB2
                go_wp2_with fail
                refine (law_alive _).mono ?_
                rintro e w5 ⟨rfl, hB5⟩
                go_wp2_with fail
                go_ret
                exact ⟨rfl, bel_trans HB4.out hB5⟩
          · have hr := HHR.out
            have h1 : (1 : Nat) ≤ 1 := Nat.le_refl _
            have HCK := hide (ty_check (w2.alloc (.cells #[.string ⟨#[116]⟩, .int .i64 136, .slice none 0 0] 44)) (some ⟨w2.heap.size, 0, none⟩) 1 [⟨⟨#[116]⟩, 136, []⟩] 1 rfl (one_C (Has.new _ _ _) rfl (Nat.le_refl _) ⟨rfl, by omega, fun h => absurd h (by omega)⟩) h1 long_oks.2.2)
            obtain ⟨z1, hz1⟩ : ∃ x, (checkF [⟨⟨#[116]⟩, 136, []⟩]).1 = x := ⟨_, rfl⟩
            obtain ⟨z2, hz2⟩ : ∃ x, (checkF [⟨⟨#[116]⟩, 136, []⟩]).2.1 = x := ⟨_, rfl⟩
            have hz3 : (checkF [⟨⟨#[116]⟩, 136, []⟩]).2.2 = 101 := long_sz.2.2
            rw [hz1, hz2, hz3] at HCK
            clear hz1 hz2 hz3 h1
            by_cases hj : j ≤ 32
            · have d1 : decide ((j : Int) ≤ 32) = true := decide_eq_true (by omega)
              obtain rfl : x3 = 0 := by have := HLT.out.1; rw [if_pos hj] at this; exact this
              clear hj HLT
              by_cases hk : k ≤ 8
              · have d2 : decide ((k : Int) ≤ 8) = true := decide_eq_true (by omega)
                obtain rfl : y3 = 0 := by have := HLF.out.1; rw [if_pos hk, if_neg (by have := HM.out.1; omega)] at this; exact this
                clear hk HLF
                go_wp2_with fail
                refine HCK.out.mono ?_
                rintro e w4 ⟨rfl, hB4⟩
                have HB4 := hide (bel_trans (bel_trans HB2.out (below_box _ _)) hB4)
                clear hB4 HCK HB2
                go_wp2_with fail
                refine (law_alive _).mono ?_
                rintro e w5 ⟨rfl, hB5⟩
                go_wp2_with fail
                go_ret
                exact ⟨rfl, bel_trans HB4.out hB5⟩
              · have d2 : decide ((k : Int) ≤ 8) = false := decide_eq_false (by omega)
                obtain rfl : y3 = 4 := by have := HLF.out.1; rw [if_neg hk] at this; exact this
                obtain rfl : y2 = 8 := HLF.out.2.resolve_left hk
                clear hk HLF
                go_wp2_with fail
                refine HCK.out.mono ?_
                rintro e w4 ⟨rfl, hB4⟩
                have HB4 := hide (bel_trans (bel_trans HB2.out (below_box _ _)) hB4)
                clear hB4 HCK HB2
                go_wp2_with fail
                refine (law_alive _).mono ?_
                rintro e w5 ⟨rfl, hB5⟩
                go_wp2_with fail
                go_ret
                exact ⟨rfl, bel_trans HB4.out hB5⟩
            · have d1 : decide ((j : Int) ≤ 32) = false := decide_eq_false (by omega)
              obtain rfl : x3 = 4 := by have := HLT.out.1; rw [if_neg hj] at this; exact this
              obtain rfl : x1 = 32 := HLT.out.2.resolve_left hj
              clear hj HLT
              by_cases hk : k ≤ 8
              · have d2 : decide ((k : Int) ≤ 8) = true := decide_eq_true (by omega)
                obtain rfl : y3 = 0 := by have := HLF.out.1; rw [if_pos hk, if_neg (by have := HM.out.1; omega)] at this; exact this
                clear hk HLF
                go_wp2_with fail
                refine HCK.out.mono ?_
                rintro e w4 ⟨rfl, hB4⟩
                have HB4 := hide (bel_trans (bel_trans HB2.out (below_box _ _)) hB4)
                clear hB4 HCK HB2
                go_wp2_with fail
                refine (law_alive _).mono ?_
                rintro e w5 ⟨rfl, hB5⟩
                go_wp2_with fail
                go_ret
                exact ⟨rfl, bel_trans HB4.out hB5⟩
              · have d2 : decide ((k : Int) ≤ 8) = false := decide_eq_false (by omega)
                obtain rfl : y3 = 4 := by have := HLF.out.1; rw [if_neg hk] at this; exact this
                obtain rfl : y2 = 8 := HLF.out.2.resolve_left hk
                clear hk HLF
                go_wp2_with fail
                refine HCK.out.mono ?_
                rintro e w4 ⟨rfl, hB4⟩
                have HB4 := hide (bel_trans (bel_trans HB2.out (below_box _ _)) hB4)
                clear hB4 HCK HB2
                go_wp2_with fail
                refine (law_alive _).mono ?_
                rintro e w5 ⟨rfl, hB5⟩
                go_wp2_with fail
                go_ret
                exact ⟨rfl, bel_trans HB4.out hB5⟩
end Go.Proofs.Ytkflofjcjolehaa
