import Derived.Test.YtcddpmiandgkjaaStkG
/-! The law StackCopies. -/
namespace Go.Proofs.Ytcddpmiandgkjaa
open Go.RowKit Go.Maps Go.Lib Go.Deep
set_option maxHeartbeats 2000000
set_option maxRecDepth 100000
set_option linter.unusedSimpArgs false
set_option linter.unusedVariables false

theorem lt_max (k a b : Nat) : k < max a b ↔ k < a ∨ k < b := by omega

theorem stack_copies_law (w : World) (A1 : Option Addr) (N1 c1 : Nat) (l1 : List S32) (hl1 : l1.length = N1) (_ : N1 ≤ 9223372036854775807) (hs1 : SliceOf w A1 9 (l1.map S32.cells)) (hok1 : ∀ x ∈ l1, x.ok)
    (A2 : Option Addr) (N2 c2 : Nat) (l2 : List S32) (hl2 : l2.length = N2) (_ : N2 ≤ 9223372036854775807) (hs2 : SliceOf w A2 9 (l2.map S32.cells)) (hok2 : ∀ x ∈ l2, x.ok)
    (A3 : Option Addr) (N3 c3 : Nat) (l3 : List S32) (hl3 : l3.length = N3) (_ : N3 ≤ 9223372036854775807) (hs3 : SliceOf w A3 9 (l3.map S32.cells)) (hok3 : ∀ x ∈ l3, x.ok) :
    Calls Try.prog 7 #[.slice A1 N1 c1, .slice A2 N2 c2, .slice A3 N3 c3] w fun e w' => e = .returned (.bool true) ∧ Below w.heap.size w w' := by
  have HL1 := hide hl1
  have HL2 := hide hl2
  have HL3 := hide hl3
  have HS1 := hide hs1
  have HS2 := hide hs2
  have HS3 := hide hs3
  have HO1 := hide hok1
  have HO2 := hide hok2
  have HO3 := hide hok3
  clear hl1 hl2 hl3 hs1 hs2 hs3 hok1 hok2 hok3
  by_cases h60_1 : 60 < N1
  · have hd1 : decide ((60 : Int) < N1) = true := decide_eq_true (by omega)
    go_enter Try.func7, Try.ntmps7
    go_wp2_with fail
    refine (stk_alive _).mono ?_
    rintro e w4 ⟨rfl, hb⟩
    go_wp2_with fail
    go_ret
    exact ⟨rfl, hb⟩
  have hd1 : decide ((60 : Int) < N1) = false := decide_eq_false (by omega)
  by_cases h60_2 : 60 < N2
  · have hd2 : decide ((60 : Int) < N2) = true := decide_eq_true (by omega)
    go_enter Try.func7, Try.ntmps7
    go_wp2_with fail
    refine (stk_alive _).mono ?_
    rintro e w4 ⟨rfl, hb⟩
    go_wp2_with fail
    go_ret
    exact ⟨rfl, hb⟩
  have hd2 : decide ((60 : Int) < N2) = false := decide_eq_false (by omega)
  by_cases h60_3 : 60 < N3
  · have hd3 : decide ((60 : Int) < N3) = true := decide_eq_true (by omega)
    go_enter Try.func7, Try.ntmps7
    go_wp2_with fail
    refine (stk_alive _).mono ?_
    rintro e w4 ⟨rfl, hb⟩
    go_wp2_with fail
    go_ret
    exact ⟨rfl, hb⟩
  have hd3 : decide ((60 : Int) < N3) = false := decide_eq_false (by omega)
  go_enter Try.func7, Try.ntmps7
  go_wp2_with fail
  refine (stk_new _).mono ?_
  rintro e w1 ⟨p, mb, rfl, hs, hp, hmb, hb⟩
  have B1 := hide hb
  have P1 := hide (And.intro hp hmb)
  have T1 := hide hs
  clear hb hp hmb hs
  go_wp2_with fail
  refine (stk_new _).mono ?_
  rintro e w2 ⟨q, mc, rfl, hs, hq, hmc, hb⟩
  have AP := hide (show Apart4 p mb q mc from by
    have h1 := T1.out.ltp
    have h2 := T1.out.ltm
    exact ⟨by omega, by omega, by omega, by omega⟩)
  have P2 := hide (And.intro (Nat.le_trans B1.out.size hq) (Nat.le_trans B1.out.size hmc))
  have T2 := hide (And.intro (T1.out.below hb) hs)
  have B2 := hide (below_on B1.out hb)
  clear hb hs hq hmc T1 B1
  go_wp2_with fail
  go_loopw [9] (fun i wr => ∃ (k : Nat) (σ : Stk), k ≤ N1 ∧ i = .int .i64 k ∧ StkIs wr p mb σ ∧ StkIs wr q mc σ ∧ Below w.heap.size w wr) (fun i _ => N1 - (intOf i).toNat)
  case atStart => exact ⟨0, _, Nat.zero_le _, rfl, T2.out.1, T2.out.2, B2.out⟩
  case round =>
    clear T2 B2
    obtain ⟨k, σ, hk, rfl, hS, hX, hB⟩ := hrel
    by_cases hlt : k < N1
    · have hki : (k : Int) < (N1 : Int) := by omega
      have hdl : decide ((k : Int) < (N1 : Int)) = true := decide_eq_true hki
      have hkw : IntKind.i64.wrap ((k : Int) + 1) = (k : Int) + 1 := wrap_i64 (by omega) (by omega)
      obtain ⟨y, hy⟩ : ∃ x, l1[k]? = some x := ⟨_, List.getElem?_eq_getElem (by rw [HL1.out]; exact hlt)⟩
      have hyo := HO1.out y (List.mem_of_getElem? hy)
      obtain ⟨cb, off, rfl, hcb, hcells⟩ := HS1.out.at_ hB (i := k) (cs := y.cells) (by rw [List.getElem?_map, hy]; rfl)
      have e0 : wr.cell? ⟨cb, off + k * 9, none⟩ = some (.int .u8 y.Do) := hcells 0 _ rfl
      have e1 : wr.cell? ⟨cb, off + k * 9 + 1, none⟩ = some (.int .i64 y.At) := hcells 1 _ rfl
      have e2 : wr.cell? ⟨cb, off + k * 9 + 2, none⟩ = some (.int .i64 y.Size) := hcells 2 _ rfl
      have e3 : wr.cell? ⟨cb, off + k * 9 + 3, none⟩ = some (.int .u8 y.V.Sort_) := hcells 3 _ rfl
      have e4 : wr.cell? ⟨cb, off + k * 9 + 4, none⟩ = some (.int .u64 y.V.N) := hcells 4 _ rfl
      have e5 : wr.cell? ⟨cb, off + k * 9 + 5, none⟩ = some (.int .i64 y.V.A) := hcells 5 _ rfl
      have e6 : wr.cell? ⟨cb, off + k * 9 + 6, none⟩ = some (.int .i64 y.V.B) := hcells 6 _ rfl
      have e7 : wr.cell? ⟨cb, off + k * 9 + 7, none⟩ = some (.int .i64 y.V.Off) := hcells 7 _ rfl
      have e8 : wr.cell? ⟨cb, off + k * 9 + 8, none⟩ = some (.int .u64 y.V.Gen) := hcells 8 _ rfl
      have BQ := (Below.refl wr.heap.size wr).alloc (Nat.le_refl _) (.cells #[.int .u8 y.Do, .int .i64 y.At, .int .i64 y.Size, .int .u8 y.V.Sort_, .int .u64 y.V.N, .int .i64 y.V.A, .int .i64 y.V.B, .int .i64 y.V.Off, .int .u64 y.V.Gen] 32)
      have H1 := hide (hS.below BQ)
      have H2 := hide (hX.below BQ)
      have B2 := hide (below_on hB BQ)
      have Q2 := hide (show Has (wr.alloc (.cells #[.int .u8 y.Do, .int .i64 y.At, .int .i64 y.Size, .int .u8 y.V.Sort_, .int .u64 y.V.N, .int .i64 y.V.A, .int .i64 y.V.B, .int .i64 y.V.Off, .int .u64 y.V.Gen] 32)) wr.heap.size 32 y.cells.toArray from Has.new wr _ _)
      have HFT := hide (S25.fits hyo.2.2.2)
      have hlp := hS.ltp
      have hlm := hS.ltm
      have hlq := hX.ltp
      have hlc := hX.ltm
      clear hy hyo hcells hS hX hB hcb BQ
      go_wp2_with fail
      clear e0 e1 e2 e3 e4 e5 e6 e7 e8
      have UU := hide (show p < wr.heap.size ∧ mb < wr.heap.size ∧ q < wr.heap.size ∧ mc < wr.heap.size from ⟨hlp, hlm, hlq, hlc⟩)
      clear hlp hlm hlq hlc
      generalize wr.alloc (.cells #[.int .u8 y.Do, .int .i64 y.At, .int .i64 y.Size, .int .u8 y.V.Sort_, .int .u64 y.V.N, .int .i64 y.V.A, .int .i64 y.V.B, .int .i64 y.V.Off, .int .u64 y.V.Gen] 32) = W0 at *
      generalize wr.heap.size = u at *
      have HR := hide (range_has Q2.out)
      refine wp_region_fixed [44, 45, 46, 47, 48, 49, 50, 51]
        [.pointer (some ⟨p, 0, none⟩), .pointer (some ⟨u, 1, none⟩), .int .i64 y.At, .pointer (some ⟨u, 2, none⟩), .int .i64 y.Size, .pointer (some ⟨u, 3, none⟩), y.V.v.agg, y.V.v.av.enc] (by kernel_rfl) (by simp) rfl (by kernel_rfl) (by kernel_rfl) (by kernel_rfl) (by simp) (by decide) ?_ ?_
      · refine ⟨?_, ?_, ?_, ?_, ?_, ?_, ?_, ?_, trivial⟩
        · exact .inl ⟨.inl rfl, fun a' W hB hold he K hK => fx_move (.tmp 7) _ (.inl rfl) (hold 7 (by decide)) (hK _ (Below.refl _ _))⟩
        · exact .inl ⟨.inl rfl, fun a' W hB hold he K hK => fx_field 32 (.tmp 10) 1 _ _ rfl (hold 10 (by decide)) (by kernel_rfl) (hK _ (Below.refl _ _))⟩
        · exact .inl ⟨.inl rfl, fun a' W hB hold he K hK => wp_step_load 3 (.tmp 45) _ rfl _ (he ⟨1, .data⟩ (by simp) rfl) (call_at (range_below HR.out hB)) (hK _ (Below.refl _ _))⟩
        · exact .inl ⟨.inl rfl, fun a' W hB hold he K hK => fx_field 32 (.tmp 10) 2 _ _ rfl (hold 10 (by decide)) (by kernel_rfl) (hK _ (Below.refl _ _))⟩
        · exact .inl ⟨.inl rfl, fun a' W hB hold he K hK => wp_step_load 3 (.tmp 47) _ rfl _ (he ⟨3, .data⟩ (by simp) rfl) (call_size (range_below HR.out hB)) (hK _ (Below.refl _ _))⟩
        · exact .inl ⟨.inl rfl, fun a' W hB hold he K hK => fx_field 32 (.tmp 10) 3 _ _ rfl (hold 10 (by decide)) (by kernel_rfl) (hK _ (Below.refl _ _))⟩
        · exact .inl ⟨.inl rfl, fun a' W hB hold he K hK => wp_step_load 25 (.tmp 49) _ rfl _ (he ⟨5, .data⟩ (by simp) rfl) (call_v (range_below HR.out hB)) (hK _ (Below.refl _ _))⟩
        · exact .inl ⟨.inl rfl, fun a' W hB hold he K hK => (by have h0 : a'.eval (.tmp 50) = _ := (he ⟨6, .data⟩ (by simp) rfl); exact wp_step_call 13 #[_] (by simp only [execOp, h0]; simp [go_sem] <;> simp_all [Act.eval]) ((val_any W y.V.v).mono (by rintro e1 w' ⟨rfl, hb⟩; exact ⟨_, rfl, hK _ hb⟩)))⟩
      intro Wn hbn
      have H1 := hide (H1.out.below hbn)
      have H2 := hide (H2.out.below hbn)
      have HR := hide (range_below HR.out hbn)
      have B2 := hide (below_on B2.out hbn)
      clear hbn
      simp only [putAll, List.length_cons, List.length_nil, Nat.reduceAdd, List.drop_succ_cons, List.drop_zero]
      go_wp2_with fail
      refine (stk_store _ _ _ _ H1.out y.At y.Size y.V.v.av HFT.out).mono ?_
      rintro e wt ⟨rfl, hs, ht⟩
      have H1 := hide hs
      have H2 := hide (H2.out.aside ht AP.out.symm)
      have HR := hide (range_turned HR.out ht (fun h => by have := UU.out; omega))
      have B2 := hide (B2.out.trans (ht.below B2.out.size (fun k hk => by rcases hk with rfl | rfl; exact P1.out.1; exact P1.out.2)))
      clear hs ht
      go_wp2_with fail
      refine wp_region_fixed [53, 54, 55, 56, 57, 58, 59, 60]
        [.pointer (some ⟨q, 0, none⟩), .pointer (some ⟨u, 1, none⟩), .int .i64 y.At, .pointer (some ⟨u, 2, none⟩), .int .i64 y.Size, .pointer (some ⟨u, 3, none⟩), y.V.v.agg, y.V.v.av.enc] (by kernel_rfl) (by simp) rfl (by kernel_rfl) (by kernel_rfl) (by kernel_rfl) (by simp) (by decide) ?_ ?_
      · refine ⟨?_, ?_, ?_, ?_, ?_, ?_, ?_, ?_, trivial⟩
        · exact .inl ⟨.inl rfl, fun a' W hB hold he K hK => fx_move (.tmp 8) _ (.inl rfl) (hold 8 (by decide)) (hK _ (Below.refl _ _))⟩
        · exact .inl ⟨.inl rfl, fun a' W hB hold he K hK => fx_field 32 (.tmp 10) 1 _ _ rfl (hold 10 (by decide)) (by kernel_rfl) (hK _ (Below.refl _ _))⟩
        · exact .inl ⟨.inl rfl, fun a' W hB hold he K hK => wp_step_load 3 (.tmp 54) _ rfl _ (he ⟨1, .data⟩ (by simp) rfl) (call_at (range_below HR.out hB)) (hK _ (Below.refl _ _))⟩
        · exact .inl ⟨.inl rfl, fun a' W hB hold he K hK => fx_field 32 (.tmp 10) 2 _ _ rfl (hold 10 (by decide)) (by kernel_rfl) (hK _ (Below.refl _ _))⟩
        · exact .inl ⟨.inl rfl, fun a' W hB hold he K hK => wp_step_load 3 (.tmp 56) _ rfl _ (he ⟨3, .data⟩ (by simp) rfl) (call_size (range_below HR.out hB)) (hK _ (Below.refl _ _))⟩
        · exact .inl ⟨.inl rfl, fun a' W hB hold he K hK => fx_field 32 (.tmp 10) 3 _ _ rfl (hold 10 (by decide)) (by kernel_rfl) (hK _ (Below.refl _ _))⟩
        · exact .inl ⟨.inl rfl, fun a' W hB hold he K hK => wp_step_load 25 (.tmp 58) _ rfl _ (he ⟨5, .data⟩ (by simp) rfl) (call_v (range_below HR.out hB)) (hK _ (Below.refl _ _))⟩
        · exact .inl ⟨.inl rfl, fun a' W hB hold he K hK => (by have h0 : a'.eval (.tmp 59) = _ := (he ⟨6, .data⟩ (by simp) rfl); exact wp_step_call 13 #[_] (by simp only [execOp, h0]; simp [go_sem] <;> simp_all [Act.eval]) ((val_any W y.V.v).mono (by rintro e1 w' ⟨rfl, hb⟩; exact ⟨_, rfl, hK _ hb⟩)))⟩
      intro Wn hbn
      have H2 := hide (H2.out.below hbn)
      have H1 := hide (H1.out.below hbn)
      have HR := hide (range_below HR.out hbn)
      have B2 := hide (below_on B2.out hbn)
      clear hbn
      simp only [putAll, List.length_cons, List.length_nil, Nat.reduceAdd, List.drop_succ_cons, List.drop_zero]
      go_wp2_with fail
      refine (stk_store _ _ _ _ H2.out y.At y.Size y.V.v.av HFT.out).mono ?_
      rintro e wt ⟨rfl, hs, ht⟩
      have H2 := hide hs
      have H1 := hide (H1.out.aside ht AP.out)
      have HR := hide (range_turned HR.out ht (fun h => by have := UU.out; omega))
      have B2 := hide (B2.out.trans (ht.below B2.out.size (fun k hk => by rcases hk with rfl | rfl; exact P2.out.1; exact P2.out.2)))
      clear hs ht
      go_wp2_with fail
      exact ⟨⟨k + 1, _, by omega, by simp, H1.out, H2.out, B2.out⟩, by simp [intOf]; omega⟩
    · have hdl : decide ((k : Int) < (N1 : Int)) = false := decide_eq_false (by omega)
      have H1 := hide hS
      have H2 := hide hX
      have B2 := hide hB
      clear hS hX hB
      go_wp2_with fail
      refine (stk_copy _ _ _ _ H1.out).mono ?_
      rintro e w3 ⟨r, md, rfl, hs, hr, hmd, hb⟩
      have AQ := hide (show Apart4 p mb r md ∧ Apart4 q mc r md from by
        have h1 := H1.out.ltp
        have h2 := H1.out.ltm
        have h3 := H2.out.ltp
        have h4 := H2.out.ltm
        exact ⟨⟨by omega, by omega, by omega, by omega⟩, ⟨by omega, by omega, by omega, by omega⟩⟩)
      have P3 := hide (And.intro (Nat.le_trans B2.out.size hr) (Nat.le_trans B2.out.size hmd))
      have H1 := hide (H1.out.below hb)
      have H2 := hide (H2.out.below hb)
      have H3 := hide hs
      have B2 := hide (below_on B2.out hb)
      clear hb hs hr hmd
      go_wp2_with fail
      go_loopw [12] (fun i wr => ∃ (k : Nat) (σ1 σ : Stk), k ≤ max N2 N3 ∧ i = .int .i64 k ∧ StkIs wr p mb σ1 ∧ StkIs wr q mc σ ∧ StkIs wr r md σ ∧ Below w.heap.size w wr) (fun i _ => max N2 N3 - (intOf i).toNat)
      case atStart => exact ⟨0, _, _, Nat.zero_le _, rfl, H1.out, H2.out, H3.out, B2.out⟩
      case round =>
        clear H1 H2 H3 B2 hdl hk hlt
        obtain ⟨k, σ1, σ, hk, rfl, hS, hX, hY, hB⟩ := hrel
        have H1 := hide hS
        have H2 := hide hX
        have H3 := hide hY
        have B2 := hide hB
        clear hS hX hY hB
        have hkw : IntKind.i64.wrap ((k : Int) + 1) = (k : Int) + 1 := wrap_i64 (by omega) (by omega)
        by_cases h2 : k < N2
        · have h2i : (k : Int) < (N2 : Int) := by omega
          have d2 : decide ((k : Int) < (N2 : Int)) = true := decide_eq_true h2i
          go_wp2_with fail
          obtain ⟨y, hy⟩ : ∃ x, l2[k]? = some x := ⟨_, List.getElem?_eq_getElem (by rw [HL2.out]; omega)⟩
          obtain ⟨cb, off, rfl, hcb, hcells⟩ := HS2.out.at_ B2.out (i := k) (cs := y.cells) (by rw [List.getElem?_map, hy]; rfl)
          have HFT := hide (S25.fits (HO2.out y (List.mem_of_getElem? hy)).2.2.2)
          have HR := hide (show World.rangeAt _ cb (off + k * 9) y.cells from hcells)
          have HY := hide hy
          clear hcells hcb hy
          refine wp_region_fixed [80, 81, 82, 83, 84, 85, 86, 87, 88, 89, 90, 91, 92, 93, 94, 95, 96]
            [.pointer (some ⟨p, 0, none⟩), .slice (some ⟨cb, off, none⟩) N2 c2, .int .i64 (k : Int), .pointer (some ⟨cb, off + k * 9, none⟩), .pointer (some ⟨cb, off + k * 9 + 1, none⟩), .int .i64 y.At, .slice (some ⟨cb, off, none⟩) N2 c2, .int .i64 (k : Int), .pointer (some ⟨cb, off + k * 9, none⟩), .pointer (some ⟨cb, off + k * 9 + 2, none⟩), .int .i64 y.Size, .slice (some ⟨cb, off, none⟩) N2 c2, .int .i64 (k : Int), .pointer (some ⟨cb, off + k * 9, none⟩), .pointer (some ⟨cb, off + k * 9 + 3, none⟩), y.V.v.agg, y.V.v.av.enc] (by kernel_rfl) (by simp) rfl (by kernel_rfl) (by kernel_rfl) (by kernel_rfl) (by simp) (by decide) ?_ ?_
          · refine ⟨?_, ?_, ?_, ?_, ?_, ?_, ?_, ?_, ?_, ?_, ?_, ?_, ?_, ?_, ?_, ?_, ?_, trivial⟩
            · exact .inl ⟨.inl rfl, fun a' W hB hold he K hK => fx_move (.tmp 7) _ (.inl rfl) (hold 7 (by decide)) (hK _ (Below.refl _ _))⟩
            · exact .inl ⟨.inl rfl, fun a' W hB hold he K hK => fx_move (.tmp 1) _ (.inl rfl) (hold 1 (by decide)) (hK _ (Below.refl _ _))⟩
            · exact .inl ⟨.inl rfl, fun a' W hB hold he K hK => fx_move (.tmp 12) _ (.inl rfl) (hold 12 (by decide)) (hK _ (Below.refl _ _))⟩
            · exact .inl ⟨.inl rfl, fun a' W hB hold he K hK => (by have h0 : a'.eval (.tmp 81) = _ := (he ⟨1, .data⟩ (by simp) rfl); have h1 : a'.eval (.tmp 82) = _ := (he ⟨2, .data⟩ (by simp) rfl); exact wp_step_run (.pointer (some ⟨cb, off + k * 9, none⟩)) (by simp only [execOp, h0, h1]; go_simp) (hK _ (Below.refl _ _)))⟩
            · exact .inl ⟨.inl rfl, fun a' W hB hold he K hK => fx_field 32 (.tmp 83) 1 _ _ rfl (he ⟨3, .data⟩ (by simp) rfl) (by kernel_rfl) (hK _ (Below.refl _ _))⟩
            · exact .inl ⟨.inl rfl, fun a' W hB hold he K hK => wp_step_load 3 (.tmp 84) _ rfl _ (he ⟨4, .data⟩ (by simp) rfl) (call_at (range_below HR.out hB)) (hK _ (Below.refl _ _))⟩
            · exact .inl ⟨.inl rfl, fun a' W hB hold he K hK => fx_move (.tmp 1) _ (.inl rfl) (hold 1 (by decide)) (hK _ (Below.refl _ _))⟩
            · exact .inl ⟨.inl rfl, fun a' W hB hold he K hK => fx_move (.tmp 12) _ (.inl rfl) (hold 12 (by decide)) (hK _ (Below.refl _ _))⟩
            · exact .inl ⟨.inl rfl, fun a' W hB hold he K hK => (by have h0 : a'.eval (.tmp 86) = _ := (he ⟨6, .data⟩ (by simp) rfl); have h1 : a'.eval (.tmp 87) = _ := (he ⟨7, .data⟩ (by simp) rfl); exact wp_step_run (.pointer (some ⟨cb, off + k * 9, none⟩)) (by simp only [execOp, h0, h1]; go_simp) (hK _ (Below.refl _ _)))⟩
            · exact .inl ⟨.inl rfl, fun a' W hB hold he K hK => fx_field 32 (.tmp 88) 2 _ _ rfl (he ⟨8, .data⟩ (by simp) rfl) (by kernel_rfl) (hK _ (Below.refl _ _))⟩
            · exact .inl ⟨.inl rfl, fun a' W hB hold he K hK => wp_step_load 3 (.tmp 89) _ rfl _ (he ⟨9, .data⟩ (by simp) rfl) (call_size (range_below HR.out hB)) (hK _ (Below.refl _ _))⟩
            · exact .inl ⟨.inl rfl, fun a' W hB hold he K hK => fx_move (.tmp 1) _ (.inl rfl) (hold 1 (by decide)) (hK _ (Below.refl _ _))⟩
            · exact .inl ⟨.inl rfl, fun a' W hB hold he K hK => fx_move (.tmp 12) _ (.inl rfl) (hold 12 (by decide)) (hK _ (Below.refl _ _))⟩
            · exact .inl ⟨.inl rfl, fun a' W hB hold he K hK => (by have h0 : a'.eval (.tmp 91) = _ := (he ⟨11, .data⟩ (by simp) rfl); have h1 : a'.eval (.tmp 92) = _ := (he ⟨12, .data⟩ (by simp) rfl); exact wp_step_run (.pointer (some ⟨cb, off + k * 9, none⟩)) (by simp only [execOp, h0, h1]; go_simp) (hK _ (Below.refl _ _)))⟩
            · exact .inl ⟨.inl rfl, fun a' W hB hold he K hK => fx_field 32 (.tmp 93) 3 _ _ rfl (he ⟨13, .data⟩ (by simp) rfl) (by kernel_rfl) (hK _ (Below.refl _ _))⟩
            · exact .inl ⟨.inl rfl, fun a' W hB hold he K hK => wp_step_load 25 (.tmp 94) _ rfl _ (he ⟨14, .data⟩ (by simp) rfl) (call_v (range_below HR.out hB)) (hK _ (Below.refl _ _))⟩
            · exact .inl ⟨.inl rfl, fun a' W hB hold he K hK => (by have h0 : a'.eval (.tmp 95) = _ := (he ⟨15, .data⟩ (by simp) rfl); exact wp_step_call 13 #[_] (by simp only [execOp, h0]; simp [go_sem] <;> simp_all [Act.eval]) ((val_any W y.V.v).mono (by rintro e1 w' ⟨rfl, hb⟩; exact ⟨_, rfl, hK _ hb⟩)))⟩
          intro Wn hbn
          have H1 := hide (H1.out.below hbn)
          have H2 := hide (H2.out.below hbn)
          have H3 := hide (H3.out.below hbn)
          have B2 := hide (below_on B2.out hbn)
          clear hbn
          simp only [putAll, List.length_cons, List.length_nil, Nat.reduceAdd, List.drop_succ_cons, List.drop_zero]
          go_wp2_with fail
          refine (stk_store _ _ _ _ H1.out y.At y.Size y.V.v.av HFT.out).mono ?_
          rintro e wt ⟨rfl, hs, ht⟩
          have H1 := hide hs
          have H2 := hide (H2.out.aside ht AP.out.symm)
          have H3 := hide (H3.out.aside ht AQ.out.1.symm)
          have B2 := hide (B2.out.trans (ht.below B2.out.size (fun k hk => by rcases hk with rfl | rfl; exact P1.out.1; exact P1.out.2)))
          clear hs ht
          clear HY HR HFT
          by_cases h3 : k < N3
          · have h3i : (k : Int) < (N3 : Int) := by omega
            have d3 : decide ((k : Int) < (N3 : Int)) = true := decide_eq_true h3i
            go_wp2_with fail
            obtain ⟨y, hy⟩ : ∃ x, l3[k]? = some x := ⟨_, List.getElem?_eq_getElem (by rw [HL3.out]; omega)⟩
            obtain ⟨cb, off, rfl, hcb, hcells⟩ := HS3.out.at_ B2.out (i := k) (cs := y.cells) (by rw [List.getElem?_map, hy]; rfl)
            have HFT := hide (S25.fits (HO3.out y (List.mem_of_getElem? hy)).2.2.2)
            have HR := hide (show World.rangeAt _ cb (off + k * 9) y.cells from hcells)
            have HY := hide hy
            clear hcells hcb hy
            refine wp_region_fixed [102, 103, 104, 105, 106, 107, 108, 109, 110, 111, 112, 113, 114, 115, 116, 117, 118]
              [.pointer (some ⟨r, 0, none⟩), .slice (some ⟨cb, off, none⟩) N3 c3, .int .i64 (k : Int), .pointer (some ⟨cb, off + k * 9, none⟩), .pointer (some ⟨cb, off + k * 9 + 1, none⟩), .int .i64 y.At, .slice (some ⟨cb, off, none⟩) N3 c3, .int .i64 (k : Int), .pointer (some ⟨cb, off + k * 9, none⟩), .pointer (some ⟨cb, off + k * 9 + 2, none⟩), .int .i64 y.Size, .slice (some ⟨cb, off, none⟩) N3 c3, .int .i64 (k : Int), .pointer (some ⟨cb, off + k * 9, none⟩), .pointer (some ⟨cb, off + k * 9 + 3, none⟩), y.V.v.agg, y.V.v.av.enc] (by kernel_rfl) (by simp) rfl (by kernel_rfl) (by kernel_rfl) (by kernel_rfl) (by simp) (by decide) ?_ ?_
            · refine ⟨?_, ?_, ?_, ?_, ?_, ?_, ?_, ?_, ?_, ?_, ?_, ?_, ?_, ?_, ?_, ?_, ?_, trivial⟩
              · exact .inl ⟨.inl rfl, fun a' W hB hold he K hK => fx_move (.tmp 11) _ (.inl rfl) (hold 11 (by decide)) (hK _ (Below.refl _ _))⟩
              · exact .inl ⟨.inl rfl, fun a' W hB hold he K hK => fx_move (.tmp 2) _ (.inl rfl) (hold 2 (by decide)) (hK _ (Below.refl _ _))⟩
              · exact .inl ⟨.inl rfl, fun a' W hB hold he K hK => fx_move (.tmp 12) _ (.inl rfl) (hold 12 (by decide)) (hK _ (Below.refl _ _))⟩
              · exact .inl ⟨.inl rfl, fun a' W hB hold he K hK => (by have h0 : a'.eval (.tmp 103) = _ := (he ⟨1, .data⟩ (by simp) rfl); have h1 : a'.eval (.tmp 104) = _ := (he ⟨2, .data⟩ (by simp) rfl); exact wp_step_run (.pointer (some ⟨cb, off + k * 9, none⟩)) (by simp only [execOp, h0, h1]; go_simp) (hK _ (Below.refl _ _)))⟩
              · exact .inl ⟨.inl rfl, fun a' W hB hold he K hK => fx_field 32 (.tmp 105) 1 _ _ rfl (he ⟨3, .data⟩ (by simp) rfl) (by kernel_rfl) (hK _ (Below.refl _ _))⟩
              · exact .inl ⟨.inl rfl, fun a' W hB hold he K hK => wp_step_load 3 (.tmp 106) _ rfl _ (he ⟨4, .data⟩ (by simp) rfl) (call_at (range_below HR.out hB)) (hK _ (Below.refl _ _))⟩
              · exact .inl ⟨.inl rfl, fun a' W hB hold he K hK => fx_move (.tmp 2) _ (.inl rfl) (hold 2 (by decide)) (hK _ (Below.refl _ _))⟩
              · exact .inl ⟨.inl rfl, fun a' W hB hold he K hK => fx_move (.tmp 12) _ (.inl rfl) (hold 12 (by decide)) (hK _ (Below.refl _ _))⟩
              · exact .inl ⟨.inl rfl, fun a' W hB hold he K hK => (by have h0 : a'.eval (.tmp 108) = _ := (he ⟨6, .data⟩ (by simp) rfl); have h1 : a'.eval (.tmp 109) = _ := (he ⟨7, .data⟩ (by simp) rfl); exact wp_step_run (.pointer (some ⟨cb, off + k * 9, none⟩)) (by simp only [execOp, h0, h1]; go_simp) (hK _ (Below.refl _ _)))⟩
              · exact .inl ⟨.inl rfl, fun a' W hB hold he K hK => fx_field 32 (.tmp 110) 2 _ _ rfl (he ⟨8, .data⟩ (by simp) rfl) (by kernel_rfl) (hK _ (Below.refl _ _))⟩
              · exact .inl ⟨.inl rfl, fun a' W hB hold he K hK => wp_step_load 3 (.tmp 111) _ rfl _ (he ⟨9, .data⟩ (by simp) rfl) (call_size (range_below HR.out hB)) (hK _ (Below.refl _ _))⟩
              · exact .inl ⟨.inl rfl, fun a' W hB hold he K hK => fx_move (.tmp 2) _ (.inl rfl) (hold 2 (by decide)) (hK _ (Below.refl _ _))⟩
              · exact .inl ⟨.inl rfl, fun a' W hB hold he K hK => fx_move (.tmp 12) _ (.inl rfl) (hold 12 (by decide)) (hK _ (Below.refl _ _))⟩
              · exact .inl ⟨.inl rfl, fun a' W hB hold he K hK => (by have h0 : a'.eval (.tmp 113) = _ := (he ⟨11, .data⟩ (by simp) rfl); have h1 : a'.eval (.tmp 114) = _ := (he ⟨12, .data⟩ (by simp) rfl); exact wp_step_run (.pointer (some ⟨cb, off + k * 9, none⟩)) (by simp only [execOp, h0, h1]; go_simp) (hK _ (Below.refl _ _)))⟩
              · exact .inl ⟨.inl rfl, fun a' W hB hold he K hK => fx_field 32 (.tmp 115) 3 _ _ rfl (he ⟨13, .data⟩ (by simp) rfl) (by kernel_rfl) (hK _ (Below.refl _ _))⟩
              · exact .inl ⟨.inl rfl, fun a' W hB hold he K hK => wp_step_load 25 (.tmp 116) _ rfl _ (he ⟨14, .data⟩ (by simp) rfl) (call_v (range_below HR.out hB)) (hK _ (Below.refl _ _))⟩
              · exact .inl ⟨.inl rfl, fun a' W hB hold he K hK => (by have h0 : a'.eval (.tmp 117) = _ := (he ⟨15, .data⟩ (by simp) rfl); exact wp_step_call 13 #[_] (by simp only [execOp, h0]; simp [go_sem] <;> simp_all [Act.eval]) ((val_any W y.V.v).mono (by rintro e1 w' ⟨rfl, hb⟩; exact ⟨_, rfl, hK _ hb⟩)))⟩
            intro Wn hbn
            have H3 := hide (H3.out.below hbn)
            have H1 := hide (H1.out.below hbn)
            have H2 := hide (H2.out.below hbn)
            have B2 := hide (below_on B2.out hbn)
            clear hbn
            simp only [putAll, List.length_cons, List.length_nil, Nat.reduceAdd, List.drop_succ_cons, List.drop_zero]
            go_wp2_with fail
            refine (stk_store _ _ _ _ H3.out y.At y.Size y.V.v.av HFT.out).mono ?_
            rintro e wt ⟨rfl, hs, ht⟩
            have H3 := hide hs
            have H1 := hide (H1.out.aside ht AQ.out.1)
            have H2 := hide (H2.out.aside ht AQ.out.2)
            have B2 := hide (B2.out.trans (ht.below B2.out.size (fun k hk => by rcases hk with rfl | rfl; exact P3.out.1; exact P3.out.2)))
            clear hs ht
            go_wp2_with fail
            have HR := hide (show World.rangeAt wt cb (off + k * 9) y.cells from by
              obtain ⟨cb2, off2, he, _, hc2⟩ := HS3.out.at_ B2.out (i := k) (cs := y.cells) (by rw [List.getElem?_map, HY.out]; rfl)
              obtain ⟨rfl, rfl⟩ : cb = cb2 ∧ off = off2 := by simpa using he
              exact hc2)
            refine wp_region_fixed [120, 121, 122, 123, 124, 125, 126, 127, 128, 129, 130, 131, 132, 133, 134, 135, 136]
              [.pointer (some ⟨q, 0, none⟩), .slice (some ⟨cb, off, none⟩) N3 c3, .int .i64 (k : Int), .pointer (some ⟨cb, off + k * 9, none⟩), .pointer (some ⟨cb, off + k * 9 + 1, none⟩), .int .i64 y.At, .slice (some ⟨cb, off, none⟩) N3 c3, .int .i64 (k : Int), .pointer (some ⟨cb, off + k * 9, none⟩), .pointer (some ⟨cb, off + k * 9 + 2, none⟩), .int .i64 y.Size, .slice (some ⟨cb, off, none⟩) N3 c3, .int .i64 (k : Int), .pointer (some ⟨cb, off + k * 9, none⟩), .pointer (some ⟨cb, off + k * 9 + 3, none⟩), y.V.v.agg, y.V.v.av.enc] (by kernel_rfl) (by simp) rfl (by kernel_rfl) (by kernel_rfl) (by kernel_rfl) (by simp) (by decide) ?_ ?_
            · refine ⟨?_, ?_, ?_, ?_, ?_, ?_, ?_, ?_, ?_, ?_, ?_, ?_, ?_, ?_, ?_, ?_, ?_, trivial⟩
              · exact .inl ⟨.inl rfl, fun a' W hB hold he K hK => fx_move (.tmp 8) _ (.inl rfl) (hold 8 (by decide)) (hK _ (Below.refl _ _))⟩
              · exact .inl ⟨.inl rfl, fun a' W hB hold he K hK => fx_move (.tmp 2) _ (.inl rfl) (hold 2 (by decide)) (hK _ (Below.refl _ _))⟩
              · exact .inl ⟨.inl rfl, fun a' W hB hold he K hK => fx_move (.tmp 12) _ (.inl rfl) (hold 12 (by decide)) (hK _ (Below.refl _ _))⟩
              · exact .inl ⟨.inl rfl, fun a' W hB hold he K hK => (by have h0 : a'.eval (.tmp 121) = _ := (he ⟨1, .data⟩ (by simp) rfl); have h1 : a'.eval (.tmp 122) = _ := (he ⟨2, .data⟩ (by simp) rfl); exact wp_step_run (.pointer (some ⟨cb, off + k * 9, none⟩)) (by simp only [execOp, h0, h1]; go_simp) (hK _ (Below.refl _ _)))⟩
              · exact .inl ⟨.inl rfl, fun a' W hB hold he K hK => fx_field 32 (.tmp 123) 1 _ _ rfl (he ⟨3, .data⟩ (by simp) rfl) (by kernel_rfl) (hK _ (Below.refl _ _))⟩
              · exact .inl ⟨.inl rfl, fun a' W hB hold he K hK => wp_step_load 3 (.tmp 124) _ rfl _ (he ⟨4, .data⟩ (by simp) rfl) (call_at (range_below HR.out hB)) (hK _ (Below.refl _ _))⟩
              · exact .inl ⟨.inl rfl, fun a' W hB hold he K hK => fx_move (.tmp 2) _ (.inl rfl) (hold 2 (by decide)) (hK _ (Below.refl _ _))⟩
              · exact .inl ⟨.inl rfl, fun a' W hB hold he K hK => fx_move (.tmp 12) _ (.inl rfl) (hold 12 (by decide)) (hK _ (Below.refl _ _))⟩
              · exact .inl ⟨.inl rfl, fun a' W hB hold he K hK => (by have h0 : a'.eval (.tmp 126) = _ := (he ⟨6, .data⟩ (by simp) rfl); have h1 : a'.eval (.tmp 127) = _ := (he ⟨7, .data⟩ (by simp) rfl); exact wp_step_run (.pointer (some ⟨cb, off + k * 9, none⟩)) (by simp only [execOp, h0, h1]; go_simp) (hK _ (Below.refl _ _)))⟩
              · exact .inl ⟨.inl rfl, fun a' W hB hold he K hK => fx_field 32 (.tmp 128) 2 _ _ rfl (he ⟨8, .data⟩ (by simp) rfl) (by kernel_rfl) (hK _ (Below.refl _ _))⟩
              · exact .inl ⟨.inl rfl, fun a' W hB hold he K hK => wp_step_load 3 (.tmp 129) _ rfl _ (he ⟨9, .data⟩ (by simp) rfl) (call_size (range_below HR.out hB)) (hK _ (Below.refl _ _))⟩
              · exact .inl ⟨.inl rfl, fun a' W hB hold he K hK => fx_move (.tmp 2) _ (.inl rfl) (hold 2 (by decide)) (hK _ (Below.refl _ _))⟩
              · exact .inl ⟨.inl rfl, fun a' W hB hold he K hK => fx_move (.tmp 12) _ (.inl rfl) (hold 12 (by decide)) (hK _ (Below.refl _ _))⟩
              · exact .inl ⟨.inl rfl, fun a' W hB hold he K hK => (by have h0 : a'.eval (.tmp 131) = _ := (he ⟨11, .data⟩ (by simp) rfl); have h1 : a'.eval (.tmp 132) = _ := (he ⟨12, .data⟩ (by simp) rfl); exact wp_step_run (.pointer (some ⟨cb, off + k * 9, none⟩)) (by simp only [execOp, h0, h1]; go_simp) (hK _ (Below.refl _ _)))⟩
              · exact .inl ⟨.inl rfl, fun a' W hB hold he K hK => fx_field 32 (.tmp 133) 3 _ _ rfl (he ⟨13, .data⟩ (by simp) rfl) (by kernel_rfl) (hK _ (Below.refl _ _))⟩
              · exact .inl ⟨.inl rfl, fun a' W hB hold he K hK => wp_step_load 25 (.tmp 134) _ rfl _ (he ⟨14, .data⟩ (by simp) rfl) (call_v (range_below HR.out hB)) (hK _ (Below.refl _ _))⟩
              · exact .inl ⟨.inl rfl, fun a' W hB hold he K hK => (by have h0 : a'.eval (.tmp 135) = _ := (he ⟨15, .data⟩ (by simp) rfl); exact wp_step_call 13 #[_] (by simp only [execOp, h0]; simp [go_sem] <;> simp_all [Act.eval]) ((val_any W y.V.v).mono (by rintro e1 w' ⟨rfl, hb⟩; exact ⟨_, rfl, hK _ hb⟩)))⟩
            intro Wn hbn
            have H2 := hide (H2.out.below hbn)
            have H1 := hide (H1.out.below hbn)
            have H3 := hide (H3.out.below hbn)
            have B2 := hide (below_on B2.out hbn)
            clear hbn
            simp only [putAll, List.length_cons, List.length_nil, Nat.reduceAdd, List.drop_succ_cons, List.drop_zero]
            go_wp2_with fail
            refine (stk_store _ _ _ _ H2.out y.At y.Size y.V.v.av HFT.out).mono ?_
            rintro e wt ⟨rfl, hs, ht⟩
            have H2 := hide hs
            have H1 := hide (H1.out.aside ht AP.out)
            have H3 := hide (H3.out.aside ht AQ.out.2.symm)
            have B2 := hide (B2.out.trans (ht.below B2.out.size (fun k hk => by rcases hk with rfl | rfl; exact P2.out.1; exact P2.out.2)))
            clear hs ht
            go_wp2_with fail
            exact ⟨⟨k + 1, _, _, by omega, by simp, H1.out, H2.out, H3.out, B2.out⟩, by simp [intOf]; omega⟩
          · have d3 : decide ((k : Int) < (N3 : Int)) = false := decide_eq_false (by omega)
            go_wp2_with fail
            exact ⟨⟨k + 1, _, _, by omega, by simp, H1.out, H2.out, H3.out, B2.out⟩, by simp [intOf]; omega⟩
        · have d2 : decide ((k : Int) < (N2 : Int)) = false := decide_eq_false (by omega)
          by_cases h3 : k < N3
          · have h3i : (k : Int) < (N3 : Int) := by omega
            have d3 : decide ((k : Int) < (N3 : Int)) = true := decide_eq_true h3i
            go_wp2_with fail
            obtain ⟨y, hy⟩ : ∃ x, l3[k]? = some x := ⟨_, List.getElem?_eq_getElem (by rw [HL3.out]; omega)⟩
            obtain ⟨cb, off, rfl, hcb, hcells⟩ := HS3.out.at_ B2.out (i := k) (cs := y.cells) (by rw [List.getElem?_map, hy]; rfl)
            have HFT := hide (S25.fits (HO3.out y (List.mem_of_getElem? hy)).2.2.2)
            have HR := hide (show World.rangeAt _ cb (off + k * 9) y.cells from hcells)
            have HY := hide hy
            clear hcells hcb hy
            refine wp_region_fixed [102, 103, 104, 105, 106, 107, 108, 109, 110, 111, 112, 113, 114, 115, 116, 117, 118]
              [.pointer (some ⟨r, 0, none⟩), .slice (some ⟨cb, off, none⟩) N3 c3, .int .i64 (k : Int), .pointer (some ⟨cb, off + k * 9, none⟩), .pointer (some ⟨cb, off + k * 9 + 1, none⟩), .int .i64 y.At, .slice (some ⟨cb, off, none⟩) N3 c3, .int .i64 (k : Int), .pointer (some ⟨cb, off + k * 9, none⟩), .pointer (some ⟨cb, off + k * 9 + 2, none⟩), .int .i64 y.Size, .slice (some ⟨cb, off, none⟩) N3 c3, .int .i64 (k : Int), .pointer (some ⟨cb, off + k * 9, none⟩), .pointer (some ⟨cb, off + k * 9 + 3, none⟩), y.V.v.agg, y.V.v.av.enc] (by kernel_rfl) (by simp) rfl (by kernel_rfl) (by kernel_rfl) (by kernel_rfl) (by simp) (by decide) ?_ ?_
            · refine ⟨?_, ?_, ?_, ?_, ?_, ?_, ?_, ?_, ?_, ?_, ?_, ?_, ?_, ?_, ?_, ?_, ?_, trivial⟩
              · exact .inl ⟨.inl rfl, fun a' W hB hold he K hK => fx_move (.tmp 11) _ (.inl rfl) (hold 11 (by decide)) (hK _ (Below.refl _ _))⟩
              · exact .inl ⟨.inl rfl, fun a' W hB hold he K hK => fx_move (.tmp 2) _ (.inl rfl) (hold 2 (by decide)) (hK _ (Below.refl _ _))⟩
              · exact .inl ⟨.inl rfl, fun a' W hB hold he K hK => fx_move (.tmp 12) _ (.inl rfl) (hold 12 (by decide)) (hK _ (Below.refl _ _))⟩
              · exact .inl ⟨.inl rfl, fun a' W hB hold he K hK => (by have h0 : a'.eval (.tmp 103) = _ := (he ⟨1, .data⟩ (by simp) rfl); have h1 : a'.eval (.tmp 104) = _ := (he ⟨2, .data⟩ (by simp) rfl); exact wp_step_run (.pointer (some ⟨cb, off + k * 9, none⟩)) (by simp only [execOp, h0, h1]; go_simp) (hK _ (Below.refl _ _)))⟩
              · exact .inl ⟨.inl rfl, fun a' W hB hold he K hK => fx_field 32 (.tmp 105) 1 _ _ rfl (he ⟨3, .data⟩ (by simp) rfl) (by kernel_rfl) (hK _ (Below.refl _ _))⟩
              · exact .inl ⟨.inl rfl, fun a' W hB hold he K hK => wp_step_load 3 (.tmp 106) _ rfl _ (he ⟨4, .data⟩ (by simp) rfl) (call_at (range_below HR.out hB)) (hK _ (Below.refl _ _))⟩
              · exact .inl ⟨.inl rfl, fun a' W hB hold he K hK => fx_move (.tmp 2) _ (.inl rfl) (hold 2 (by decide)) (hK _ (Below.refl _ _))⟩
              · exact .inl ⟨.inl rfl, fun a' W hB hold he K hK => fx_move (.tmp 12) _ (.inl rfl) (hold 12 (by decide)) (hK _ (Below.refl _ _))⟩
              · exact .inl ⟨.inl rfl, fun a' W hB hold he K hK => (by have h0 : a'.eval (.tmp 108) = _ := (he ⟨6, .data⟩ (by simp) rfl); have h1 : a'.eval (.tmp 109) = _ := (he ⟨7, .data⟩ (by simp) rfl); exact wp_step_run (.pointer (some ⟨cb, off + k * 9, none⟩)) (by simp only [execOp, h0, h1]; go_simp) (hK _ (Below.refl _ _)))⟩
              · exact .inl ⟨.inl rfl, fun a' W hB hold he K hK => fx_field 32 (.tmp 110) 2 _ _ rfl (he ⟨8, .data⟩ (by simp) rfl) (by kernel_rfl) (hK _ (Below.refl _ _))⟩
              · exact .inl ⟨.inl rfl, fun a' W hB hold he K hK => wp_step_load 3 (.tmp 111) _ rfl _ (he ⟨9, .data⟩ (by simp) rfl) (call_size (range_below HR.out hB)) (hK _ (Below.refl _ _))⟩
              · exact .inl ⟨.inl rfl, fun a' W hB hold he K hK => fx_move (.tmp 2) _ (.inl rfl) (hold 2 (by decide)) (hK _ (Below.refl _ _))⟩
              · exact .inl ⟨.inl rfl, fun a' W hB hold he K hK => fx_move (.tmp 12) _ (.inl rfl) (hold 12 (by decide)) (hK _ (Below.refl _ _))⟩
              · exact .inl ⟨.inl rfl, fun a' W hB hold he K hK => (by have h0 : a'.eval (.tmp 113) = _ := (he ⟨11, .data⟩ (by simp) rfl); have h1 : a'.eval (.tmp 114) = _ := (he ⟨12, .data⟩ (by simp) rfl); exact wp_step_run (.pointer (some ⟨cb, off + k * 9, none⟩)) (by simp only [execOp, h0, h1]; go_simp) (hK _ (Below.refl _ _)))⟩
              · exact .inl ⟨.inl rfl, fun a' W hB hold he K hK => fx_field 32 (.tmp 115) 3 _ _ rfl (he ⟨13, .data⟩ (by simp) rfl) (by kernel_rfl) (hK _ (Below.refl _ _))⟩
              · exact .inl ⟨.inl rfl, fun a' W hB hold he K hK => wp_step_load 25 (.tmp 116) _ rfl _ (he ⟨14, .data⟩ (by simp) rfl) (call_v (range_below HR.out hB)) (hK _ (Below.refl _ _))⟩
              · exact .inl ⟨.inl rfl, fun a' W hB hold he K hK => (by have h0 : a'.eval (.tmp 117) = _ := (he ⟨15, .data⟩ (by simp) rfl); exact wp_step_call 13 #[_] (by simp only [execOp, h0]; simp [go_sem] <;> simp_all [Act.eval]) ((val_any W y.V.v).mono (by rintro e1 w' ⟨rfl, hb⟩; exact ⟨_, rfl, hK _ hb⟩)))⟩
            intro Wn hbn
            have H3 := hide (H3.out.below hbn)
            have H1 := hide (H1.out.below hbn)
            have H2 := hide (H2.out.below hbn)
            have B2 := hide (below_on B2.out hbn)
            clear hbn
            simp only [putAll, List.length_cons, List.length_nil, Nat.reduceAdd, List.drop_succ_cons, List.drop_zero]
            go_wp2_with fail
            refine (stk_store _ _ _ _ H3.out y.At y.Size y.V.v.av HFT.out).mono ?_
            rintro e wt ⟨rfl, hs, ht⟩
            have H3 := hide hs
            have H1 := hide (H1.out.aside ht AQ.out.1)
            have H2 := hide (H2.out.aside ht AQ.out.2)
            have B2 := hide (B2.out.trans (ht.below B2.out.size (fun k hk => by rcases hk with rfl | rfl; exact P3.out.1; exact P3.out.2)))
            clear hs ht
            go_wp2_with fail
            have HR := hide (show World.rangeAt wt cb (off + k * 9) y.cells from by
              obtain ⟨cb2, off2, he, _, hc2⟩ := HS3.out.at_ B2.out (i := k) (cs := y.cells) (by rw [List.getElem?_map, HY.out]; rfl)
              obtain ⟨rfl, rfl⟩ : cb = cb2 ∧ off = off2 := by simpa using he
              exact hc2)
            refine wp_region_fixed [120, 121, 122, 123, 124, 125, 126, 127, 128, 129, 130, 131, 132, 133, 134, 135, 136]
              [.pointer (some ⟨q, 0, none⟩), .slice (some ⟨cb, off, none⟩) N3 c3, .int .i64 (k : Int), .pointer (some ⟨cb, off + k * 9, none⟩), .pointer (some ⟨cb, off + k * 9 + 1, none⟩), .int .i64 y.At, .slice (some ⟨cb, off, none⟩) N3 c3, .int .i64 (k : Int), .pointer (some ⟨cb, off + k * 9, none⟩), .pointer (some ⟨cb, off + k * 9 + 2, none⟩), .int .i64 y.Size, .slice (some ⟨cb, off, none⟩) N3 c3, .int .i64 (k : Int), .pointer (some ⟨cb, off + k * 9, none⟩), .pointer (some ⟨cb, off + k * 9 + 3, none⟩), y.V.v.agg, y.V.v.av.enc] (by kernel_rfl) (by simp) rfl (by kernel_rfl) (by kernel_rfl) (by kernel_rfl) (by simp) (by decide) ?_ ?_
            · refine ⟨?_, ?_, ?_, ?_, ?_, ?_, ?_, ?_, ?_, ?_, ?_, ?_, ?_, ?_, ?_, ?_, ?_, trivial⟩
              · exact .inl ⟨.inl rfl, fun a' W hB hold he K hK => fx_move (.tmp 8) _ (.inl rfl) (hold 8 (by decide)) (hK _ (Below.refl _ _))⟩
              · exact .inl ⟨.inl rfl, fun a' W hB hold he K hK => fx_move (.tmp 2) _ (.inl rfl) (hold 2 (by decide)) (hK _ (Below.refl _ _))⟩
              · exact .inl ⟨.inl rfl, fun a' W hB hold he K hK => fx_move (.tmp 12) _ (.inl rfl) (hold 12 (by decide)) (hK _ (Below.refl _ _))⟩
              · exact .inl ⟨.inl rfl, fun a' W hB hold he K hK => (by have h0 : a'.eval (.tmp 121) = _ := (he ⟨1, .data⟩ (by simp) rfl); have h1 : a'.eval (.tmp 122) = _ := (he ⟨2, .data⟩ (by simp) rfl); exact wp_step_run (.pointer (some ⟨cb, off + k * 9, none⟩)) (by simp only [execOp, h0, h1]; go_simp) (hK _ (Below.refl _ _)))⟩
              · exact .inl ⟨.inl rfl, fun a' W hB hold he K hK => fx_field 32 (.tmp 123) 1 _ _ rfl (he ⟨3, .data⟩ (by simp) rfl) (by kernel_rfl) (hK _ (Below.refl _ _))⟩
              · exact .inl ⟨.inl rfl, fun a' W hB hold he K hK => wp_step_load 3 (.tmp 124) _ rfl _ (he ⟨4, .data⟩ (by simp) rfl) (call_at (range_below HR.out hB)) (hK _ (Below.refl _ _))⟩
              · exact .inl ⟨.inl rfl, fun a' W hB hold he K hK => fx_move (.tmp 2) _ (.inl rfl) (hold 2 (by decide)) (hK _ (Below.refl _ _))⟩
              · exact .inl ⟨.inl rfl, fun a' W hB hold he K hK => fx_move (.tmp 12) _ (.inl rfl) (hold 12 (by decide)) (hK _ (Below.refl _ _))⟩
              · exact .inl ⟨.inl rfl, fun a' W hB hold he K hK => (by have h0 : a'.eval (.tmp 126) = _ := (he ⟨6, .data⟩ (by simp) rfl); have h1 : a'.eval (.tmp 127) = _ := (he ⟨7, .data⟩ (by simp) rfl); exact wp_step_run (.pointer (some ⟨cb, off + k * 9, none⟩)) (by simp only [execOp, h0, h1]; go_simp) (hK _ (Below.refl _ _)))⟩
              · exact .inl ⟨.inl rfl, fun a' W hB hold he K hK => fx_field 32 (.tmp 128) 2 _ _ rfl (he ⟨8, .data⟩ (by simp) rfl) (by kernel_rfl) (hK _ (Below.refl _ _))⟩
              · exact .inl ⟨.inl rfl, fun a' W hB hold he K hK => wp_step_load 3 (.tmp 129) _ rfl _ (he ⟨9, .data⟩ (by simp) rfl) (call_size (range_below HR.out hB)) (hK _ (Below.refl _ _))⟩
              · exact .inl ⟨.inl rfl, fun a' W hB hold he K hK => fx_move (.tmp 2) _ (.inl rfl) (hold 2 (by decide)) (hK _ (Below.refl _ _))⟩
              · exact .inl ⟨.inl rfl, fun a' W hB hold he K hK => fx_move (.tmp 12) _ (.inl rfl) (hold 12 (by decide)) (hK _ (Below.refl _ _))⟩
              · exact .inl ⟨.inl rfl, fun a' W hB hold he K hK => (by have h0 : a'.eval (.tmp 131) = _ := (he ⟨11, .data⟩ (by simp) rfl); have h1 : a'.eval (.tmp 132) = _ := (he ⟨12, .data⟩ (by simp) rfl); exact wp_step_run (.pointer (some ⟨cb, off + k * 9, none⟩)) (by simp only [execOp, h0, h1]; go_simp) (hK _ (Below.refl _ _)))⟩
              · exact .inl ⟨.inl rfl, fun a' W hB hold he K hK => fx_field 32 (.tmp 133) 3 _ _ rfl (he ⟨13, .data⟩ (by simp) rfl) (by kernel_rfl) (hK _ (Below.refl _ _))⟩
              · exact .inl ⟨.inl rfl, fun a' W hB hold he K hK => wp_step_load 25 (.tmp 134) _ rfl _ (he ⟨14, .data⟩ (by simp) rfl) (call_v (range_below HR.out hB)) (hK _ (Below.refl _ _))⟩
              · exact .inl ⟨.inl rfl, fun a' W hB hold he K hK => (by have h0 : a'.eval (.tmp 135) = _ := (he ⟨15, .data⟩ (by simp) rfl); exact wp_step_call 13 #[_] (by simp only [execOp, h0]; simp [go_sem] <;> simp_all [Act.eval]) ((val_any W y.V.v).mono (by rintro e1 w' ⟨rfl, hb⟩; exact ⟨_, rfl, hK _ hb⟩)))⟩
            intro Wn hbn
            have H2 := hide (H2.out.below hbn)
            have H1 := hide (H1.out.below hbn)
            have H3 := hide (H3.out.below hbn)
            have B2 := hide (below_on B2.out hbn)
            clear hbn
            simp only [putAll, List.length_cons, List.length_nil, Nat.reduceAdd, List.drop_succ_cons, List.drop_zero]
            go_wp2_with fail
            refine (stk_store _ _ _ _ H2.out y.At y.Size y.V.v.av HFT.out).mono ?_
            rintro e wt ⟨rfl, hs, ht⟩
            have H2 := hide hs
            have H1 := hide (H1.out.aside ht AP.out)
            have H3 := hide (H3.out.aside ht AQ.out.2.symm)
            have B2 := hide (B2.out.trans (ht.below B2.out.size (fun k hk => by rcases hk with rfl | rfl; exact P2.out.1; exact P2.out.2)))
            clear hs ht
            go_wp2_with fail
            exact ⟨⟨k + 1, _, _, by omega, by simp, H1.out, H2.out, H3.out, B2.out⟩, by simp [intOf]; omega⟩
          · have d3 : decide ((k : Int) < (N3 : Int)) = false := decide_eq_false (by omega)
            clear H1
            go_wp2_with fail
            go_loopw [13] (fun i wr => ∃ (j : Nat), j ≤ 128 ∧ i = .int .i64 ((j : Int) - 128) ∧ StkIs wr q mc σ ∧ StkIs wr r md σ ∧ Below w.heap.size w wr) (fun i _ => 128 - (intOf i + 128).toNat)
            case atStart => exact ⟨0, by omega, rfl, H2.out, H3.out, B2.out⟩
            case round =>
              clear H2 H3 B2 d2 d3 h2 h3 hk hkw
              obtain ⟨j, hj, rfl, hX, hY, hB⟩ := hrel
              have H2 := hide hX
              have H3 := hide hY
              have B2 := hide hB
              clear hX hY hB
              by_cases hlt : j < 128
              · have dj : decide ((j : Int) - 128 < 0) = true := decide_eq_true (by omega)
                have hjw : IntKind.i64.wrap ((j : Int) - 128 + 1) = (j : Int) - 128 + 1 := wrap_i64 (by omega) (by omega)
                have CL := hide (fun W p mb (h : StkIs W p mb σ) => stk_load W p mb σ h ((j : Int) - 128) 1)
                have CS := hide (fun W p mb (h : StkIs W p mb σ) => stk_set W p mb σ h ((j : Int) - 128))
                have CP := hide (fun W p mb (h : StkIs W p mb σ) => stk_spilled W p mb σ h ((j : Int) - 128))
                generalize σ.load ((j : Int) - 128) 1 = L at *
                generalize σ.setAt ((j : Int) - 128) = b at *
                generalize σ.spAt ((j : Int) - 128) = v at *
                obtain ⟨u, z⟩ := L
                have CU := fun W => val_of W u
                have CV := fun W => val_of W v
                generalize u.plain = pu at *
                generalize v.plain = pv at *
                obtain ⟨u0, u1, u2, u3, u4, u5⟩ := pu
                obtain ⟨v0, v1, v2, v3, v4, v5⟩ := pv
                have CU := hide CU
                have CV := hide CV
                simp only [V22.agg] at CU CV CL
                generalize u.enc = ue at *
                generalize v.enc = ve at *
                go_wp2_with fail
                refine (CL.out _ _ _ H3.out).mono ?_
                rintro e wt ⟨rfl, hb⟩
                have H2 := hide (H2.out.below hb)
                have H3 := hide (H3.out.below hb)
                have B2 := hide (below_on B2.out hb)
                clear hb
                go_wp2_with fail
                refine (CL.out _ _ _ H2.out).mono ?_
                rintro e wt ⟨rfl, hb⟩
                have H2 := hide (H2.out.below hb)
                have H3 := hide (H3.out.below hb)
                have B2 := hide (below_on B2.out hb)
                clear hb
                go_wp2_with fail
                refine (CU.out _).mono ?_
                rintro e wt ⟨rfl, hb⟩
                have H2 := hide (H2.out.below hb)
                have H3 := hide (H3.out.below hb)
                have B2 := hide (below_on B2.out hb)
                clear hb
                go_wp2_with fail
                refine (CU.out _).mono ?_
                rintro e wt ⟨rfl, hb⟩
                have H2 := hide (H2.out.below hb)
                have H3 := hide (H3.out.below hb)
                have B2 := hide (below_on B2.out hb)
                clear hb
                go_wp2_with fail
                refine (CS.out _ _ _ H3.out).mono ?_
                rintro e wt ⟨rfl, rfl⟩
                go_wp2_with fail
                refine (CS.out _ _ _ H2.out).mono ?_
                rintro e wt ⟨rfl, rfl⟩
                go_wp2_with fail
                refine (CP.out _ _ _ H3.out).mono ?_
                rintro e wt ⟨rfl, rfl⟩
                go_wp2_with fail
                refine (CV.out _).mono ?_
                rintro e wt ⟨rfl, hb⟩
                have H2 := hide (H2.out.below hb)
                have H3 := hide (H3.out.below hb)
                have B2 := hide (below_on B2.out hb)
                clear hb
                go_wp2_with fail
                refine (CP.out _ _ _ H2.out).mono ?_
                rintro e wt ⟨rfl, rfl⟩
                go_wp2_with fail
                refine (CV.out _).mono ?_
                rintro e wt ⟨rfl, hb⟩
                have H2 := hide (H2.out.below hb)
                have H3 := hide (H3.out.below hb)
                have B2 := hide (below_on B2.out hb)
                clear hb
                go_wp2_with fail
                exact ⟨⟨j + 1, by omega, by simp; omega, H2.out, H3.out, B2.out⟩, by simp [intOf]; omega⟩
              · have dj : decide ((j : Int) - 128 < 0) = false := decide_eq_false (by omega)
                go_wp2_with fail
                refine (stk_alive _).mono ?_
                rintro e w4 ⟨rfl, hb⟩
                have B2 := hide (below_on B2.out hb)
                clear hb
                go_wp2_with fail
                go_ret
                exact ⟨rfl, B2.out⟩

end Go.Proofs.Ytcddpmiandgkjaa
