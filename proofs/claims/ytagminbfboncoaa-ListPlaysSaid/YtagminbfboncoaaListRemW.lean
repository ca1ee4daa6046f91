import Derived.Test.YtagminbfboncoaaListRem
import Derived.Test.YtagminbfboncoaaGrowW
import Derived.Test.YtagminbfboncoaaWf
/-! Package list: the law ListRemoves, walked. -/
namespace Go.Proofs.Ytagminbfboncoaa
open Go.RowKit Go.Maps
set_option maxHeartbeats 4000000
set_option maxRecDepth 100000
set_option linter.unusedSimpArgs false
set_option linter.unusedVariables false

def intKey (a : Int) : Value := .int .i64 a
def intOk (a : Int) : Prop := (Lit.int .i64 a).wf = true
theorem int_mkey : MKey Try.prog 3 intKey intOk :=
  MKey.of_keyed (int_keyed Try.underlying3) (fun {a b} h => by simpa [intKey] using h) (fun a ha => ⟨_, keyOf_int_mk Try.underlying3 ha⟩)
theorem zero_int (w : World) : (zeroValue 3).run Try.prog w = .ok (.int .i64 0) w := by kernel_rfl
theorem intOk_of {a : Int} (h0 : 0 ≤ a) (h1 : a < 1000) : intOk a := (ok_of (s := a) (g := 0) h0 h1 (by decide) (by decide)).1

/-- Who has been seen, as the map has it. -/
def GoneIs (w : World) (gm : Nat) (seen : List Int) : Prop := ∃ m, MapIs w gm intKey intOk m ∧ ∀ a, mget m a = if a ∈ seen then some (.int .i64 1) else none

theorem GoneIs.lt {w : World} {gm : Nat} {seen : List Int} (h : GoneIs w gm seen) : gm < w.heap.size := by obtain ⟨m, h, _⟩ := h; exact h.lt
theorem GoneIs.kept {w w' : World} {gm : Nat} {seen : List Int} (h : GoneIs w gm seen) (hk : w'.heap[gm]? = w.heap[gm]?) : GoneIs w' gm seen := by
  obtain ⟨m, h, h2⟩ := h
  exact ⟨m, h.kept hk, h2⟩
theorem GoneIs.below {w w' : World} {gm : Nat} {seen : List Int} (h : GoneIs w gm seen) (t : Below w.heap.size w w') : GoneIs w' gm seen := h.kept (t.block _ h.lt)
theorem GoneIs.turned {w w' : World} {gm mb : Nat} {seen : List Int} (h : GoneIs w gm seen) (hne : gm ≠ mb) (t : Turned (ListMay mb w) w w') : GoneIs w' gm seen := by
  refine h.kept (t.block _ h.lt ?_)
  obtain ⟨m, ⟨es, c, hh, _⟩, _⟩ := h
  rintro (⟨c2, hc⟩ | ⟨c2, hc⟩ | ⟨he, _⟩)
  · rw [hh] at hc; cases hc
  · rw [hh] at hc; cases hc
  · exact hne he
theorem GoneIs.get {w : World} {gm : Nat} {seen : List Int} (h : GoneIs w gm seen) {a : Int} (h0 : 0 ≤ a) (h1 : a < 1000) :
    (Instr.lookup 52 (.map (some gm)) (.int .i64 a) false).run Try.prog w = .ok (.int .i64 (if a ∈ seen then 1 else 0)) w := by
  obtain ⟨m, hm, hg⟩ := h
  refine (run_get int_mkey Try.underlying52 (zero_int w) hm (intOk_of h0 h1) false).trans ?_
  rw [if_neg (by simp), hg]
  split <;> rfl
theorem GoneIs.put {w : World} {gm : Nat} {seen : List Int} (h : GoneIs w gm seen) {a : Int} (h0 : 0 ≤ a) (h1 : a < 1000) :
    ∃ w2, (Instr.mapUpdate 52 (.map (some gm)) (.int .i64 a) (.int .i64 1)).run Try.prog w = .ok () w2 ∧ GoneIs w2 gm (seen ++ [a]) ∧ Turned (fun k => k = gm) w w2 := by
  obtain ⟨m, hm, hg⟩ := h
  obtain ⟨w2, h2, h3, h4⟩ := run_put int_mkey Try.underlying52 hm (intOk_of h0 h1) (.int .i64 1)
  refine ⟨w2, h2, ⟨_, h3, fun b => ?_⟩, h4⟩
  rw [mget_put, hg]
  by_cases hb : a = b
  · subst hb
    simp
  · rw [if_neg hb]
    by_cases hs : b ∈ seen
    · simp [hs]
    · have : ¬ b = a := fun e => hb e.symm
      simp [hs, this]
theorem ListIs.turned_map {N : Nat} {w w' : World} {b mb gm : Nat} {hs : List (Int × Int)} (h : ListIs N w b mb hs) (hne : gm ≠ mb) {seen : List Int} (hg : GoneIs w gm seen) (t : Turned (fun k => k = gm) w w') : ListIs N w' b mb hs := by
  obtain ⟨m, ⟨es, c, hh, _⟩, _⟩ := hg
  refine h.kept fun k hk => t.block k ?_ ?_
  · rcases hk with ⟨c2, hc⟩ | ⟨c2, hc⟩ | ⟨_, e2, c2, hc⟩ <;> exact (Array.getElem?_eq_some_iff.1 hc).1
  · rintro rfl
    rcases hk with ⟨c2, hc⟩ | ⟨c2, hc⟩ | ⟨he, _⟩
    · rw [hh] at hc; cases hc
    · rw [hh] at hc; cases hc
    · exact hne he

theorem bin_geq {x y : Int} (h : x < y) (W : World) : (binOp .geq 3 (.int .i64 x) (.int .i64 y)).run Try.prog W = .ok (.bool false) W := by
  have hd : decide (y ≤ x) = false := decide_eq_false (by omega)
  go_simp

theorem load_hcell (W : World) (g i : Nat) (c0 c1 : Value) (h0 : W.cell? ⟨g, i, none⟩ = some c0) (h1 : W.cell? ⟨g, i + 1, none⟩ = some c1) : (Instr.loadAt 29 (.pointer (some ⟨g, i, none⟩))).run Try.prog W = .ok (.agg #[c0, c1]) W := by
  go_simp

theorem neq_h (W : World) (x y : Int) : (binOp .neq 29 (.agg #[.int .i64 x, .int .u64 y]) (.agg #[.int .i64 x, .int .u64 y])).run Try.prog W = .ok (.bool false) W := by
  go_simp

theorem neq_hg (W : World) (x y : Operand) (a b : Int) : (eqGuard .neq 29 x y (.agg #[.int .i64 a, .int .u64 b]) (.agg #[.int .i64 a, .int .u64 b])).run Try.prog W = .ok () W := by
  kernel_rfl

theorem ListIs.lt_map {N : Nat} {w : World} {b mb : Nat} {hs : List (Int × Int)} (h : ListIs N w b mb hs) : mb < w.heap.size := by
  obtain ⟨ks, m, _, _, _, _, _, _, h, _⟩ := h
  exact h.lt

theorem list_removes_law (w : World) (m : Int) (hm : (Lit.int .u8 m).wf = true) (A : Option Addr) (N c : Nat) (l : List Int) (hl : l.length = N) (_ : N ≤ 9223372036854775807) (hs : SliceOf w A 1 (l.map fun x => [.int .u8 x])) (hok : ∀ x ∈ l, (Lit.int .u8 x).wf = true) :
    Calls Try.prog 5 #[.int .u8 m, .slice A N c] w fun e w' => e = .returned (.bool true) ∧ Below w.heap.size w w' := by
  have hm2 := wf_u8 hm
  obtain ⟨M, rfl⟩ : ∃ M : Nat, m = M := ⟨m.toNat, by omega⟩
  have hM : M < 256 := by omega
  have hMw : IntKind.i64.wrap (M : Int) = M := wrap_i64 (by omega) (by omega)
  clear hm hm2
  by_cases h300 : 300 < N
  · have hd : decide ((300 : Int) < N) = true := by simp; omega
    clear hl hs hok
    go_enter Try.func5, Try.ntmps5
    go_wp2_with fail
    refine (list_works _).mono ?_
    rintro e w1 ⟨rfl, hb⟩
    go_wp2
    go_returns
    exact ⟨rfl, hb⟩
  have hd : decide ((300 : Int) < N) = false := by simp; omega
  have HL := hide hl
  have HS := hide hs
  have HO := hide hok
  clear hl hs hok
  have hmm := @run_makeMap Try.prog
  go_enter Try.func5, Try.ntmps5
  go_wp2_with fail
  refine (list_new _).mono ?_
  rintro e w1 ⟨b, mb, rfl, L1, t1⟩
  have L1 := hide L1
  have B1 := hide t1
  clear t1
  go_wp2_with fail
  go_loopw [6] (fun i wr => ∃ k : Nat, k ≤ M ∧ i = .int .i64 k ∧ ListIs w.heap.size wr b mb (hsOf k []) ∧ Below w.heap.size w wr) (fun i _ => M - (intOf i).toNat)
  case atStart => exact ⟨0, Nat.zero_le _, rfl, L1.out, B1.out⟩
  case round =>
    obtain ⟨k, hk, rfl, hL, hB⟩ := hrel
    by_cases hlt : k < M
    · have hdl : decide ((k : Int) < (M : Int)) = true := decide_eq_true (by omega)
      have hkw : IntKind.i64.wrap ((k : Int) + 1) = (k : Int) + 1 := wrap_i64 (by omega) (by omega)
      have hk8 : IntKind.u8.wrap (k : Int) = k := by rw [IntKind.wrap_u8]; omega
      have HLL := hide hL
      have HB := hide hB
      clear hL hB
      go_wp2_with fail
      refine (list_one _ k (by omega) (by omega)).mono ?_
      rintro e w2 ⟨rfl, t2⟩
      have L2 := HLL.out.below t2
      have B2 := below_on HB.out t2
      have G := list_push _ w2 b mb _ L2 ((k : Int), 1) (ok_of (by omega) (by omega) (by decide) (by decide)) false
      have hnm : ((k : Int), (1 : Int)) ∉ hsOf k [] := fun e => by have := mem_hsOf.1 e; omega
      have e2 : pushed (hsOf k []) ((k : Int), 1) false = hsOf (k + 1) [] := by
        unfold pushed
        rw [if_neg hnm, if_neg (by simp)]
        exact hsOf_push k
      rw [e2, if_neg hnm] at G
      have G := hide G
      have B2 := hide B2
      clear t2 L2 hnm e2
      go_wp2_with fail
      refine G.out.mono ?_
      rintro e w3 ⟨rfl, L3, t3, _⟩
      have L3 := hide L3
      have B3 := hide (B2.out.trans t3)
      clear t3
      go_wp2_with fail
      go_roundw
      case rel => exact ⟨k + 1, by omega, rfl, L3.out, B3.out⟩
      case measure => simp [intOf]; omega
    · have hdl : decide ((k : Int) < (M : Int)) = false := decide_eq_false (by omega)
      have hkM : M = k := by omega
      subst hkM
      have hgm := Nat.ne_of_gt hL.lt_map
      have hgw := hB.size
      have L4 := hide (hL.below ((Below.refl _ wr).alloc (Nat.le_refl _) (.map #[] 0)))
      have B4 := hide (hB.alloc hB.size (.map #[] 0))
      have G4 : Hid (GoneIs (wr.alloc (.map #[] 0)) wr.heap.size []) := hide ⟨[], MapIs.made wr _ _, fun a => by simp [mget]⟩
      clear hL hB
      go_wp2_with fail
      generalize wr.alloc (.map #[] 0) = W0 at *
      generalize wr.heap.size = gm at *
      go_loopw [8] (fun i wr => ∃ k : Nat, k ≤ N ∧ i = .int .i64 k ∧ ListIs w.heap.size wr b mb (hsOf M (l.take k)) ∧ GoneIs wr gm (l.take k) ∧ Below w.heap.size w wr) (fun i _ => N - (intOf i).toNat)
      case atStart => exact ⟨0, Nat.zero_le _, rfl, L4.out, G4.out, B4.out⟩
      case round =>
        obtain ⟨k, hk, rfl, hL, hG, hB⟩ := hrel
        by_cases hlt : k < N
        · have hdl2 : decide ((k : Int) < (N : Int)) = true := decide_eq_true (by omega)
          have hkw : IntKind.i64.wrap ((k : Int) + 1) = (k : Int) + 1 := wrap_i64 (by omega) (by omega)
          obtain ⟨a, hy⟩ : ∃ x, l[k]? = some x := ⟨_, List.getElem?_eq_getElem (by rw [HL.out]; exact hlt)⟩
          have hao := wf_u8 (HO.out a (List.mem_of_getElem? hy))
          have hta : l.take (k + 1) = l.take k ++ [a] := by rw [List.take_add_one, hy]; rfl
          obtain ⟨cb, off, rfl, hcb, hcells⟩ := HS.out.at_ hB (i := k) (cs := [.int .u8 a]) (by rw [List.getElem?_map, hy]; rfl)
          have e0 : wr.cell? ⟨cb, off + k, none⟩ = some (.int .u8 a) := by simpa using hcells 0 _ rfl
          have haw : IntKind.i64.wrap a = a := wrap_i64 (by omega) (by omega)
          obtain ⟨seen, hseen⟩ : ∃ seen, seen = l.take k := ⟨_, rfl⟩
          rw [← hseen] at hL hG hta
          have hnd := hL.nodup
          have HT := hide hta
          have HLL := hide hL
          have HG := hide hG
          have HB := hide hB
          have HCB := hide hcb
          have ha0 := hao.1
          have ha1 := hao.2
          clear hy hcells hL hG hB hcb hta hseen hao
          go_wp2_with fail
          refine (list_one _ a ha0 ha1).mono ?_
          rintro e w2 ⟨rfl, t2⟩
          have e1 : w2.cell? ⟨cb, off + k, none⟩ = some (.int .u8 a) := (cell_below t2 (Nat.lt_of_lt_of_le HCB.out HB.out.size)).trans e0
          have B2 := hide (below_on HB.out t2)
          have G2 := hide (HG.out.below t2)
          have R := list_remove _ w2 b mb _ (HLL.out.below t2) (a, 1) (ok_of ha0 (by omega) (by decide) (by decide))
          rw [removed_hsOf hnd, hAt_mem] at R
          clear t2 hnd e0
          by_cases haM : a < M
          · have had : decide (a < (M : Int)) = true := decide_eq_true haM
            by_cases hsn : a ∈ seen
            · rw [decide_eq_false (fun e => (mem_hsOf.1 e).2.2 hsn)] at R
              have HSN := hide hsn
              have R := hide R
              clear hsn
              go_wp2_with fail
              refine R.out.mono ?_
              rintro e w4 ⟨rfl, L4', t4, q4⟩
              have G4' := G2.out.turned hgm q4
              have hlk := G4'.get ha0 (show a < 1000 by omega)
              rw [if_pos HSN.out] at hlk
              obtain ⟨w5, hu, G5, t5⟩ := G4'.put ha0 (show a < 1000 by omega)
              have L5 := hide (L4'.turned_map hgm G4' t5)
              have G5 := hide G5
              have B5 := hide ((B2.out.trans t4).trans (t5.below (B2.out.trans t4).size (fun j hj => by rw [hj]; exact hgw)))
              clear L4' t4 q4 G4' t5 R
              go_wp2_with fail
              go_roundw
              case rel => exact ⟨k + 1, by omega, rfl, by rw [HT.out]; exact L5.out, by rw [HT.out]; exact G5.out, B5.out⟩
              case measure => simp [intOf]; omega
            · rw [decide_eq_true (mem_hsOf.2 ⟨ha0, haM, hsn⟩)] at R
              have HSN := hide hsn
              have R := hide R
              clear hsn
              go_wp2_with fail
              refine R.out.mono ?_
              rintro e w4 ⟨rfl, L4', t4, q4⟩
              have G4' := G2.out.turned hgm q4
              have hlk := G4'.get ha0 (show a < 1000 by omega)
              rw [if_neg HSN.out] at hlk
              obtain ⟨w5, hu, G5, t5⟩ := G4'.put ha0 (show a < 1000 by omega)
              have L5 := hide (L4'.turned_map hgm G4' t5)
              have G5 := hide G5
              have B5 := hide ((B2.out.trans t4).trans (t5.below (B2.out.trans t4).size (fun j hj => by rw [hj]; exact hgw)))
              clear L4' t4 q4 G4' t5 R
              go_wp2_with fail
              go_roundw
              case rel => exact ⟨k + 1, by omega, rfl, by rw [HT.out]; exact L5.out, by rw [HT.out]; exact G5.out, B5.out⟩
              case measure => simp [intOf]; omega
          · have had : decide (a < (M : Int)) = false := decide_eq_false haM
            rw [decide_eq_false (fun e => haM (mem_hsOf.1 e).2.1)] at R
            have R := hide R
            go_wp2_with fail
            refine R.out.mono ?_
            rintro e w4 ⟨rfl, L4', t4, q4⟩
            have G4' := G2.out.turned hgm q4
            have hlk := G4'.get ha0 (show a < 1000 by omega)
            clear hlk
            obtain ⟨w5, hu, G5, t5⟩ := G4'.put ha0 (show a < 1000 by omega)
            have L5 := hide (L4'.turned_map hgm G4' t5)
            have G5 := hide G5
            have B5 := hide ((B2.out.trans t4).trans (t5.below (B2.out.trans t4).size (fun j hj => by rw [hj]; exact hgw)))
            clear L4' t4 q4 G4' t5 R
            go_wp2_with fail
            go_roundw
            case rel => exact ⟨k + 1, by omega, rfl, by rw [HT.out]; exact L5.out, by rw [HT.out]; exact G5.out, B5.out⟩
            case measure => simp [intOf]; omega
        · have hdl2 : decide ((k : Int) < (N : Int)) = false := decide_eq_false (by omega)
          have hkN : N = k := by omega
          subst hkN
          have ht : l.take N = l := List.take_of_length_le (by rw [HL.out]; exact Nat.le_refl _)
          rw [ht] at hL hG
          have HLL := hide hL
          have HG := hide hG
          have HB := hide hB
          have GA := hide (list_all _ wr b mb _ hL (by have := hsOf_length_le M l; omega))
          have HWS := hide hB.size
          clear hL hG hB ht
          go_wp2_with fail
          refine GA.out.mono ?_
          rintro e w5 ⟨v, rfl, hv, hb5⟩
          obtain ⟨A2, c2, rfl⟩ := row_form hv
          have L5 := hide (HLL.out.below hb5)
          have G5 := hide (HG.out.below hb5)
          have B5 := hide (below_on HB.out hb5)
          obtain ⟨base, hbase⟩ : ∃ q, q = wr.heap.size := ⟨_, rfl⟩
          rw [← hbase] at hv
          have R5 := hide hv
          clear hv hb5 hbase
          go_wp2_with fail
          obtain ⟨L, hLL⟩ : ∃ L, L = (hsOf M l).length := ⟨_, rfl⟩
          rw [← hLL] at R5 ⊢
          have HLE := hide hLL
          have hL256 : L < 256 := by have := hsOf_length_le M l; omega
          clear hLL
          go_loopw [11, 12] (fun k i wr => ∃ j : Nat, j ≤ M ∧ i = .int .i64 j ∧ k = .int .i64 (cnt l j : Nat) ∧ ListIs w.heap.size wr b mb (hsOf M l) ∧ GoneIs wr gm l ∧ wr.ownsRow base 29 2 (.slice A2 L c2) L (rowCells (hsOf M l)) ∧ Below w.heap.size w wr) (fun _ i _ => M - (intOf i).toNat)
          case atStart => exact ⟨0, Nat.zero_le _, rfl, rfl, L5.out, G5.out, R5.out, B5.out⟩
          case round =>
            obtain ⟨j, hj, rfl, rfl, hL, hG, hR, hB⟩ := hrel
            have hcl : cnt l j ≤ L := by rw [HLE.out, ← cnt_all]; exact cnt_mono l hj
            obtain ⟨C, hC⟩ : ∃ C, C = cnt l j := ⟨_, rfl⟩
            rw [← hC] at hcl ⊢
            have HC := hide hC
            clear hC
            by_cases hlt : j < M
            · have hdl3 : decide ((j : Int) < (M : Int)) = true := decide_eq_true (by omega)
              have hkw : IntKind.i64.wrap ((j : Int) + 1) = (j : Int) + 1 := wrap_i64 (by omega) (by omega)
              have hlk := hG.get (a := (j : Int)) (by omega) (by omega)
              have HLL := hide hL
              have HG := hide hG
              have HB := hide hB
              have HR := hide hR
              clear hL hG hB hR
              by_cases hsn : (j : Int) ∈ l
              · rw [if_pos hsn] at hlk
                have hc2 : cnt l (j + 1) = C := by rw [cnt_succ, HC.out]; simp [left, hsn]
                have HC2 := hide hc2
                clear hsn hc2
                go_wp2_with fail
                go_roundw
                case rel => exact ⟨j + 1, by omega, rfl, by rw [HC2.out], HLL.out, HG.out, HR.out, HB.out⟩
                case measure => simp [intOf]; omega
              · rw [if_neg hsn] at hlk
                have hlf : left l j = true := by simp [left, hsn]
                have hc2 : cnt l (j + 1) = C + 1 := by rw [cnt_succ, HC.out, if_pos hlf]
                have hat := hsOf_at hlt hlf
                rw [← HC.out] at hat
                obtain ⟨g0, cap0, hv0, _, _⟩ := row_at HR.out hat
                injection hv0 with hz1 hz2 hz3
                subst hz1
                have HAT := hide hat
                have hCL : C < L := by rw [HLE.out]; exact (List.getElem?_eq_some_iff.1 hat).1
                have HC2 := hide hc2
                clear hz2 hz3 hsn hlf hc2 hat
                have hj8 : IntKind.u8.wrap (j : Int) = j := by rw [IntKind.wrap_u8]; omega
                have hcw : IntKind.i64.wrap ((C : Int) + 1) = (C : Int) + 1 := wrap_i64 (by omega) (by omega)
                have hCi : (C : Int) < (L : Int) := by omega
                have hge := bin_geq (x := (C : Int)) (y := (L : Int)) hCi
                go_wp2_with fail
                refine wp_region_fixed [75, 76, 77, 78, 79, 80, 81, 82, 83, 84, 85, 86, 87]
                  [.int .i64 (C : Int), .slice (some ⟨g0, 0, none⟩) L c2, .int .i64 L, .bool false, .bool false, .slice (some ⟨g0, 0, none⟩) L c2, .int .i64 (C : Int), .pointer (some ⟨g0, C * 2, none⟩), .agg #[.int .i64 (j : Int), .int .u64 1], .int .i64 (j : Int), .int .u8 (j : Int), .agg #[.int .i64 (j : Int), .int .u64 1], .bool false] (by kernel_rfl) (by simp) rfl (by kernel_rfl) (by kernel_rfl) (by kernel_rfl) (by simp) (by decide) ?_ ?_
                · refine ⟨?_, ?_, ?_, ?_, ?_, ?_, ?_, ?_, ?_, ?_, ?_, ?_, ?_, trivial⟩
                  · exact .inl ⟨.inl rfl, fun a' W hB hold he K hK => fx_move (.tmp 11) _ (.inl rfl) (hold 11 (by decide)) (hK _ (Below.refl _ _))⟩
                  · exact .inl ⟨.inl rfl, fun a' W hB hold he K hK => fx_move (.tmp 10) _ (.inl rfl) (hold 10 (by decide)) (hK _ (Below.refl _ _))⟩
                  · exact .inl ⟨.inl rfl, fun a' W hB hold he K hK => (by have h0 : a'.eval (.tmp 76) = .slice (some ⟨g0, 0, none⟩) L c2 := (he ⟨1, .data⟩ (by simp) rfl); have h1 : a'.tmps[76]?.getD undef = .slice (some ⟨g0, 0, none⟩) L c2 := (by simpa [Act.eval] using h0); exact wp_step_run _ (by simp only [execOp]; simp [go_sem]; rw [h1]; rfl) (hK _ (Below.refl _ _)))⟩
                  · exact .inl ⟨.inl rfl, fun a' W hB hold he K hK => fx_bin .geq 3 3 (.tmp 75) (.tmp 77) _ _ _ rfl (he ⟨0, .data⟩ (by simp) rfl) (he ⟨2, .data⟩ (by simp) rfl) rfl (hge _) (hK _ (Below.refl _ _))⟩
                  · exact .inl ⟨.inl rfl, fun a' W hB hold he K hK => fx_move (.tmp 78) _ (.inl rfl) (he ⟨3, .data⟩ (by simp) rfl) (hK _ (Below.refl _ _))⟩
                  · exact .inl ⟨.inr ⟨4, false, _, rfl, ⟨⟨4, .guard⟩, by simp, rfl, rfl⟩, rfl, rfl, by decide, rfl⟩, fun a' W hB hold he K hK => fx_move (.tmp 10) _ (.inl rfl) (hold 10 (by decide)) (hK _ (Below.refl _ _))⟩
                  · exact .inl ⟨.inr ⟨4, false, _, rfl, ⟨⟨4, .guard⟩, by simp, rfl, rfl⟩, rfl, rfl, by decide, rfl⟩, fun a' W hB hold he K hK => fx_move (.tmp 11) _ (.inl rfl) (hold 11 (by decide)) (hK _ (Below.refl _ _))⟩
                  · exact .inl ⟨.inr ⟨4, false, _, rfl, ⟨⟨4, .guard⟩, by simp, rfl, rfl⟩, rfl, rfl, by decide, rfl⟩, fun a' W hB hold he K hK => (by have h0 : a'.eval (.tmp 80) = _ := (he ⟨5, .data⟩ (by simp) rfl); have h1 : a'.eval (.tmp 81) = _ := (he ⟨6, .data⟩ (by simp) rfl); exact wp_step_run (.pointer (some ⟨g0, C * 2, none⟩)) (by simp only [execOp, h0, h1]; go_simp) (hK _ (Below.refl _ _)))⟩
                  · exact .inl ⟨.inr ⟨4, false, _, rfl, ⟨⟨4, .guard⟩, by simp, rfl, rfl⟩, rfl, rfl, by decide, rfl⟩, fun a' W hB hold he K hK => wp_step_load 29 (.tmp 82) _ rfl _ (he ⟨7, .data⟩ (by simp) rfl) (load_hcell W _ _ _ _ (row_cell (row_below HR.out hB) HAT.out).1 (row_cell (row_below HR.out hB) HAT.out).2) (hK _ (Below.refl _ _))⟩
                  · exact .inl ⟨.inr ⟨4, false, _, rfl, ⟨⟨4, .guard⟩, by simp, rfl, rfl⟩, rfl, rfl, by decide, rfl⟩, fun a' W hB hold he K hK => fx_move (.tmp 12) _ (.inl rfl) (hold 12 (by decide)) (hK _ (Below.refl _ _))⟩
                  · exact .inl ⟨.inr ⟨4, false, _, rfl, ⟨⟨4, .guard⟩, by simp, rfl, rfl⟩, rfl, rfl, by decide, rfl⟩, fun a' W hB hold he K hK => (by have h0 : a'.eval (.tmp 84) = _ := (he ⟨9, .data⟩ (by simp) rfl); exact wp_step_run (.int .u8 (j : Int)) (by simp only [execOp, h0]; go_simp) (hK _ (Below.refl _ _)))⟩
                  · exact .inl ⟨.inr ⟨4, false, _, rfl, ⟨⟨4, .guard⟩, by simp, rfl, rfl⟩, rfl, rfl, by decide, rfl⟩, fun a' W hB hold he K hK => (by have h0 : a'.eval (.tmp 85) = _ := (he ⟨10, .data⟩ (by simp) rfl); exact wp_step_call 21 #[_] (by simp only [execOp, h0]; simp [go_sem] <;> simp_all [Act.eval]) ((list_one W j (by omega) (by omega)).mono (by rintro e1 w' ⟨rfl, hb⟩; exact ⟨_, rfl, hK _ hb⟩)))⟩
                  · exact .inl ⟨.inr ⟨4, false, _, rfl, ⟨⟨4, .guard⟩, by simp, rfl, rfl⟩, rfl, rfl, by decide, rfl⟩, fun a' W hB hold he K hK => fx_bin .neq 29 29 (.tmp 83) (.tmp 86) _ _ _ rfl (he ⟨8, .data⟩ (by simp) rfl) (he ⟨11, .data⟩ (by simp) rfl) (neq_hg _ _ _ _ _) (neq_h _ _ _) (hK _ (Below.refl _ _))⟩
                intro W1 hb
                have B6 := hide (below_on HB.out hb)
                have L6 := hide (HLL.out.below hb)
                have G6 := hide (HG.out.below hb)
                have R6 := hide (row_below HR.out hb)
                clear hb hge
                simp only [putAll, List.length_cons, List.length_nil, Nat.reduceAdd, List.drop_succ_cons, List.drop_zero]
                go_wp2_with fail
                go_roundw
                case rel => exact ⟨j + 1, by omega, rfl, by rw [HC2.out]; rfl, L6.out, G6.out, R6.out, B6.out⟩
                case measure => simp [intOf]; omega
            · have hdl3 : decide ((j : Int) < (M : Int)) = false := decide_eq_false (by omega)
              have hjM : M = j := by omega
              subst hjM
              have hCL : L = C := by rw [HLE.out, ← cnt_all]; exact HC.out.symm
              subst hCL
              have HLL := hide hL
              have HG := hide hG
              have HB := hide hB
              have GL := list_len_b _ wr b mb _ hL
              rw [← HLE.out] at GL
              have GL := hide GL
              clear hL hG hR hB hcl
              go_wp2_with fail
              refine GL.out.mono ?_
              rintro e w6 ⟨rfl, t6⟩
              have L6 := hide (HLL.out.below t6)
              have G6 := hide (HG.out.below t6)
              have B6 := hide (below_on HB.out t6)
              clear t6
              go_wp2_with fail
              go_loopw [13] (fun i wr => ∃ j : Nat, j ≤ M ∧ i = .int .i64 j ∧ ListIs w.heap.size wr b mb (curOf M l j) ∧ GoneIs wr gm l ∧ Below w.heap.size w wr) (fun i _ => M - (intOf i).toNat)
              case atStart => exact ⟨0, Nat.zero_le _, rfl, L6.out, G6.out, B6.out⟩
              case round =>
                obtain ⟨j, hj, rfl, hL, hG, hB⟩ := hrel
                by_cases hlt : j < M
                · have hdl4 : decide ((j : Int) < (M : Int)) = true := decide_eq_true (by omega)
                  have hkw : IntKind.i64.wrap ((j : Int) + 1) = (j : Int) + 1 := wrap_i64 (by omega) (by omega)
                  have hj8 : IntKind.u8.wrap (j : Int) = j := by rw [IntKind.wrap_u8]; omega
                  have hlk := hG.get (a := (j : Int)) (by omega) (by omega)
                  have R := fun W (h : ListIs w.heap.size W b mb (curOf M l j)) => list_push _ W b mb _ h ((j : Int), 1) (ok_of (by omega) (by omega) (by decide) (by decide)) true
                  simp only [pushed_curOf hlt] at R
                  have HLL := hide hL
                  have HG := hide hG
                  have HB := hide hB
                  clear hL hG hB
                  by_cases hsn : (j : Int) ∈ l
                  · have hnm : ((j : Int), (1 : Int)) ∉ curOf M l j := fun e => by have := (mem_curOf hlt).1 e; simp [left, hsn] at this
                    simp only [if_neg hnm] at R
                    have HGet := hide (fun W (h : GoneIs W gm l) => (show (Instr.lookup 52 (.map (some gm)) (.int .i64 (j : Int)) false).run Try.prog W = .ok (.int .i64 1) W by have := h.get (a := (j : Int)) (by omega) (by omega); rwa [if_pos hsn] at this))
                    rw [if_pos hsn] at hlk
                    have R := hide R
                    clear hsn hnm
                    go_wp2_with fail
                    have hGd : GoneIs wr.drew gm l := HG.out
                    have hLd : ListIs w.heap.size wr.drew b mb (curOf M l j) := HLL.out.kept (fun _ _ => rfl)
                    have hBd : Below w.heap.size w wr.drew := HB.out.drew
                    have hld := HGet.out _ hGd
                    go_region_held3 (fun w' => (Instr.lookup 52 (.map (some gm)) (.int .i64 (j : Int)) false).run Try.prog w' = .ok (.int .i64 1) w')
                      (first
                        | go_keep
                        | exact hld
                        | exact hl4
                        | exact hl5)
                      (first
                        | (go_at_call 21; refine (list_one _ (j : Int) (by omega) (by omega)).mono ?_; rintro e w4 ⟨rfl, t5⟩; have hG4 := hGd.below t5; have hl4 := HGet.out _ hG4)
                        | (go_at_call 10; refine (R.out _ (hLd.below t5)).mono ?_; rintro e w5 ⟨rfl, L5, t6, q6⟩; have hG5 := hG4.turned hgm q6; have hl5 := HGet.out _ hG5))
                    all_goals
                      have L7 := hide L5
                      have G7 := hide hG5
                      have B7 := hide ((below_on hBd t5).trans t6)
                      clear t5 t6 q6 hG4 hG5 hl4 hl5 hGd hLd hBd hld hlk L5
                      go_wp2_with fail
                      go_roundw
                      case rel => exact ⟨j + 1, by omega, rfl, L7.out, G7.out, B7.out⟩
                      case measure => simp [intOf]; omega
                  · have hnm : ((j : Int), (1 : Int)) ∈ curOf M l j := (mem_curOf hlt).2 (by simp [left, hsn])
                    simp only [if_pos hnm] at R
                    have HGet := hide (fun W (h : GoneIs W gm l) => (show (Instr.lookup 52 (.map (some gm)) (.int .i64 (j : Int)) false).run Try.prog W = .ok (.int .i64 0) W by have := h.get (a := (j : Int)) (by omega) (by omega); rwa [if_neg hsn] at this))
                    rw [if_neg hsn] at hlk
                    have R := hide R
                    clear hsn hnm
                    go_wp2_with fail
                    have hGd : GoneIs wr.drew gm l := HG.out
                    have hLd : ListIs w.heap.size wr.drew b mb (curOf M l j) := HLL.out.kept (fun _ _ => rfl)
                    have hBd : Below w.heap.size w wr.drew := HB.out.drew
                    have hld := HGet.out _ hGd
                    go_region_held3 (fun w' => (Instr.lookup 52 (.map (some gm)) (.int .i64 (j : Int)) false).run Try.prog w' = .ok (.int .i64 0) w')
                      (first
                        | go_keep
                        | exact hld
                        | exact hl4
                        | exact hl5)
                      (first
                        | (go_at_call 21; refine (list_one _ (j : Int) (by omega) (by omega)).mono ?_; rintro e w4 ⟨rfl, t5⟩; have hG4 := hGd.below t5; have hl4 := HGet.out _ hG4)
                        | (go_at_call 10; refine (R.out _ (hLd.below t5)).mono ?_; rintro e w5 ⟨rfl, L5, t6, q6⟩; have hG5 := hG4.turned hgm q6; have hl5 := HGet.out _ hG5))
                    all_goals
                      have L7 := hide L5
                      have G7 := hide hG5
                      have B7 := hide ((below_on hBd t5).trans t6)
                      clear t5 t6 q6 hG4 hG5 hl4 hl5 hGd hLd hBd hld hlk L5
                      go_wp2_with fail
                      go_roundw
                      case rel => exact ⟨j + 1, by omega, rfl, L7.out, G7.out, B7.out⟩
                      case measure => simp [intOf]; omega
                · have hdl4 : decide ((j : Int) < (M : Int)) = false := decide_eq_false (by omega)
                  have hjM : M = j := by omega
                  subst hjM
                  have HB := hide hB
                  have GL := list_len_b _ wr b mb _ hL
                  rw [curOf_length] at GL
                  have GL := hide GL
                  clear hL hG hB
                  go_wp2_with fail
                  refine GL.out.mono ?_
                  rintro e w7 ⟨rfl, t7⟩
                  have B7 := hide (below_on HB.out t7)
                  clear t7
                  go_wp2_with fail
                  refine (list_works _).mono ?_
                  rintro e w8 ⟨rfl, t8⟩
                  have B8 := hide (below_on B7.out t8)
                  clear t8
                  go_wp2_with fail
                  go_returns
                  exact ⟨rfl, B8.out⟩

end Go.Proofs.Ytagminbfboncoaa
