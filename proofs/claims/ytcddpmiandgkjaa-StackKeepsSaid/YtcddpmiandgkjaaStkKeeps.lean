import Derived.Test.YtcddpmiandgkjaaStkKeepsP
/-! The law StackKeeps. -/
namespace Go.Proofs.Ytcddpmiandgkjaa
open Go.RowKit Go.Maps Go.Lib Go.Deep
set_option maxHeartbeats 2000000
set_option maxRecDepth 100000
set_option linter.unusedSimpArgs false
set_option linter.unusedVariables false

/-- What is kept of a value that was stored. -/
def KeepAt (σ : Stk) (f n : Nat) (v : AV) : Prop := match v.numOf with
  | some x => KeepsNum σ f n x
  | none => KeepsPtr σ f v ∧ n = 8 ∧ f % 8 = 0

theorem keep_new {σ : Stk} (h : σ.ok) (a s : Int) (v : AV) (h0 : (σ.store a s v).2 = 0) (f n : Nat) (ha : a + 128 = f) (hn : s = n) : KeepAt (σ.store a s v).1 f n v := by
  have hok := store_ok h a s v
  obtain ⟨hi, his, hw⟩ := store_ways σ a s v h0
  obtain ⟨_, ha0, ha1⟩ := load_in σ a s hi
  have hf : (a + 128).toNat = f := by omega
  have hm : s.toNat = n := by omega
  unfold KeepAt
  rcases hw with ⟨x, rfl, hs⟩ | ⟨hno, h8, hd, hs⟩
  · rw [hs, hf, hm]
    exact keeps_num_new h f n x (by omega)
  · rw [hno]
    rw [hs, hf] at hok ⊢
    exact ⟨⟨hok, spill_slot h.l (by omega) v⟩, by omega, by omega⟩

theorem keep_store {σ : Stk} {f n : Nat} {u : AV} (h : KeepAt σ f n u) (a s : Int) (v : AV) (h0 : (σ.store a s v).2 = 0) (hap : ¬ (a + 128 < f + n ∧ (f : Int) < a + 128 + s)) (hf : f + n ≤ 128) : KeepAt (σ.store a s v).1 f n u := by
  unfold KeepAt at h ⊢
  split
  · rename_i x hx
    rw [hx] at h
    exact keeps_num_store h a s v h0 hap hf
  · rename_i hx
    rw [hx] at h
    obtain ⟨h, rfl, h8⟩ := h
    exact ⟨keeps_ptr_store h h8 a s v h0 hap hf, rfl, h8⟩

theorem plain_num {v : AV} (h : v.is = true) : (v.plain.sort == 1) = v.numOf.isSome := by cases v <;> first | rfl | cases h

theorem stack_keeps_law (w : World) (A1 : Option Addr) (N1 c1 : Nat) (l1 : List S32) (hl1 : l1.length = N1) (_ : N1 ≤ 9223372036854775807) (hs1 : SliceOf w A1 9 (l1.map S32.cells)) (hok1 : ∀ x ∈ l1, x.ok)
    (A2 : Option Addr) (N2 c2 : Nat) (l2 : List S32) (hl2 : l2.length = N2) (_ : N2 ≤ 9223372036854775807) (hs2 : SliceOf w A2 9 (l2.map S32.cells)) (hok2 : ∀ x ∈ l2, x.ok)
    (a : Int) (ha : (Lit.int .i64 a).wf = true) (n : Int) (hn : (Lit.int .i64 n).wf = true) (v : S25) (hv : v.ok) :
    Calls Try.prog 3 #[.slice A1 N1 c1, .slice A2 N2 c2, .int .i64 a, .int .i64 n, .agg v.cells.toArray] w fun e w' => e = .returned (.bool true) ∧ Below w.heap.size w w' := by
  show Calls Try.prog 3 #[.slice A1 N1 c1, .slice A2 N2 c2, .int .i64 a, .int .i64 n, .agg #[.int .u8 v.Sort_, .int .u64 v.N, .int .i64 v.A, .int .i64 v.B, .int .i64 v.Off, .int .u64 v.Gen]] w _
  have HL1 := hide hl1
  have HL2 := hide hl2
  have HS1 := hide hs1
  have HS2 := hide hs2
  have HO1 := hide hok1
  have HO2 := hide hok2
  have HV := hide (S25.fits hv)
  have BV0 := hide ((Below.refl w.heap.size w).alloc (Nat.le_refl _) (.cells #[.int .u8 v.Sort_, .int .u64 v.N, .int .i64 v.A, .int .i64 v.B, .int .i64 v.Off, .int .u64 v.Gen] 25))
  have HB0 := hide (Has.new w 25 #[.int .u8 v.Sort_, .int .u64 v.N, .int .i64 v.A, .int .i64 v.B, .int .i64 v.Off, .int .u64 v.Gen])
  clear hl1 hl2 hs1 hs2 hok1 hok2 ha hn hv
  by_cases h100_1 : 100 < N1
  · have hd1 : decide ((100 : Int) < N1) = true := decide_eq_true (by omega)
    go_enter Try.func3, Try.ntmps3
    go_wp2_with fail
    refine (stk_alive _).mono ?_
    rintro e w4 ⟨rfl, hb⟩
    have hb := below_on BV0.out hb
    go_wp2_with fail
    go_ret
    exact ⟨rfl, hb⟩
  have hd1 : decide ((100 : Int) < N1) = false := decide_eq_false (by omega)
  by_cases h100_2 : 100 < N2
  · have hd2 : decide ((100 : Int) < N2) = true := decide_eq_true (by omega)
    go_enter Try.func3, Try.ntmps3
    go_wp2_with fail
    refine (stk_alive _).mono ?_
    rintro e w4 ⟨rfl, hb⟩
    have hb := below_on BV0.out hb
    go_wp2_with fail
    go_ret
    exact ⟨rfl, hb⟩
  have hd2 : decide ((100 : Int) < N2) = false := decide_eq_false (by omega)
  go_enter Try.func3, Try.ntmps3
  go_wp2_with fail
  generalize w.alloc (.cells #[.int .u8 v.Sort_, .int .u64 v.N, .int .i64 v.A, .int .i64 v.B, .int .i64 v.Off, .int .u64 v.Gen] 25) = w0 at *
  refine (stk_new _).mono ?_
  rintro e w1 ⟨p, mb, rfl, hs, hp, hmb, hb⟩
  have B2 := hide (below_on BV0.out hb)
  have hlt0 := HB0.out.lt
  have P1 := hide (show w.heap.size ≤ p ∧ w.heap.size ≤ mb ∧ w.heap.size < p ∧ w.heap.size < mb by omega)
  have HB := hide (HB0.out.below hb HB0.out.lt)
  have H1 := hide hs
  clear hb hp hmb hs BV0 HB0 hlt0
  go_wp2_with fail
  obtain ⟨bv, hbv⟩ : ∃ bv, bv = w.heap.size := ⟨_, rfl⟩
  go_loopw [12] (fun i wr => ∃ (k : Nat) (σ : Stk), k ≤ N1 ∧ i = .int .i64 k ∧ StkIs wr p mb σ ∧ Has wr w.heap.size 25 #[.int .u8 v.Sort_, .int .u64 v.N, .int .i64 v.A, .int .i64 v.B, .int .i64 v.Off, .int .u64 v.Gen] ∧ Below w.heap.size w wr) (fun i _ => N1 - (intOf i).toNat)
  case atStart => exact ⟨0, _, Nat.zero_le _, rfl, H1.out, HB.out, B2.out⟩
  case round =>
    clear H1 HB B2
    obtain ⟨k, σ, hk, rfl, hS, hH, hB⟩ := hrel
    have H1 := hide hS
    have HB := hide hH
    have B2 := hide hB
    clear hS hH hB
    by_cases hlt : k < N1
    · have hki : (k : Int) < (N1 : Int) := by omega
      have hdl : decide ((k : Int) < (N1 : Int)) = true := decide_eq_true hki
      have hkw : IntKind.i64.wrap ((k : Int) + 1) = (k : Int) + 1 := wrap_i64 (by omega) (by omega)
      go_wp2_with fail
      obtain ⟨y, hy⟩ : ∃ x, l1[k]? = some x := ⟨_, List.getElem?_eq_getElem (by rw [HL1.out]; omega)⟩
      obtain ⟨cb, off, rfl, hcb, hcells⟩ := HS1.out.at_ B2.out (i := k) (cs := y.cells) (by rw [List.getElem?_map, hy]; rfl)
      have HFT := hide (S25.fits (HO1.out y (List.mem_of_getElem? hy)).2.2.2)
      have HR := hide (show World.rangeAt _ cb (off + k * 9) y.cells from hcells)
      clear hcells hcb hy
      refine wp_region_fixed [35, 36, 37, 38, 39, 40, 41, 42, 43, 44, 45, 46, 47, 48, 49, 50, 51]
        [.pointer (some ⟨p, 0, none⟩), .slice (some ⟨cb, off, none⟩) N1 c1, .int .i64 (k : Int), .pointer (some ⟨cb, off + k * 9, none⟩), .pointer (some ⟨cb, off + k * 9 + 1, none⟩), .int .i64 y.At, .slice (some ⟨cb, off, none⟩) N1 c1, .int .i64 (k : Int), .pointer (some ⟨cb, off + k * 9, none⟩), .pointer (some ⟨cb, off + k * 9 + 2, none⟩), .int .i64 y.Size, .slice (some ⟨cb, off, none⟩) N1 c1, .int .i64 (k : Int), .pointer (some ⟨cb, off + k * 9, none⟩), .pointer (some ⟨cb, off + k * 9 + 3, none⟩), y.V.v.agg, y.V.v.av.enc] (by kernel_rfl) (by simp) rfl (by kernel_rfl) (by kernel_rfl) (by kernel_rfl) (by simp) (by decide) ?_ ?_
      · refine ⟨?_, ?_, ?_, ?_, ?_, ?_, ?_, ?_, ?_, ?_, ?_, ?_, ?_, ?_, ?_, ?_, ?_, trivial⟩
        · exact .inl ⟨.inl rfl, fun a' W hB hold he K hK => fx_move (.tmp 11) _ (.inl rfl) (hold 11 (by decide)) (hK _ (Below.refl _ _))⟩
        · exact .inl ⟨.inl rfl, fun a' W hB hold he K hK => fx_move (.tmp 0) _ (.inl rfl) (hold 0 (by decide)) (hK _ (Below.refl _ _))⟩
        · exact .inl ⟨.inl rfl, fun a' W hB hold he K hK => fx_move (.tmp 12) _ (.inl rfl) (hold 12 (by decide)) (hK _ (Below.refl _ _))⟩
        · exact .inl ⟨.inl rfl, fun a' W hB hold he K hK => (by have h0 : a'.eval (.tmp 36) = _ := (he ⟨1, .data⟩ (by simp) rfl); have h1 : a'.eval (.tmp 37) = _ := (he ⟨2, .data⟩ (by simp) rfl); exact wp_step_run (.pointer (some ⟨cb, off + k * 9, none⟩)) (by simp only [execOp, h0, h1]; go_simp) (hK _ (Below.refl _ _)))⟩
        · exact .inl ⟨.inl rfl, fun a' W hB hold he K hK => fx_field 32 (.tmp 38) 1 _ _ rfl (he ⟨3, .data⟩ (by simp) rfl) (by kernel_rfl) (hK _ (Below.refl _ _))⟩
        · exact .inl ⟨.inl rfl, fun a' W hB hold he K hK => wp_step_load 3 (.tmp 39) _ rfl _ (he ⟨4, .data⟩ (by simp) rfl) (call_at (range_below HR.out hB)) (hK _ (Below.refl _ _))⟩
        · exact .inl ⟨.inl rfl, fun a' W hB hold he K hK => fx_move (.tmp 0) _ (.inl rfl) (hold 0 (by decide)) (hK _ (Below.refl _ _))⟩
        · exact .inl ⟨.inl rfl, fun a' W hB hold he K hK => fx_move (.tmp 12) _ (.inl rfl) (hold 12 (by decide)) (hK _ (Below.refl _ _))⟩
        · exact .inl ⟨.inl rfl, fun a' W hB hold he K hK => (by have h0 : a'.eval (.tmp 41) = _ := (he ⟨6, .data⟩ (by simp) rfl); have h1 : a'.eval (.tmp 42) = _ := (he ⟨7, .data⟩ (by simp) rfl); exact wp_step_run (.pointer (some ⟨cb, off + k * 9, none⟩)) (by simp only [execOp, h0, h1]; go_simp) (hK _ (Below.refl _ _)))⟩
        · exact .inl ⟨.inl rfl, fun a' W hB hold he K hK => fx_field 32 (.tmp 43) 2 _ _ rfl (he ⟨8, .data⟩ (by simp) rfl) (by kernel_rfl) (hK _ (Below.refl _ _))⟩
        · exact .inl ⟨.inl rfl, fun a' W hB hold he K hK => wp_step_load 3 (.tmp 44) _ rfl _ (he ⟨9, .data⟩ (by simp) rfl) (call_size (range_below HR.out hB)) (hK _ (Below.refl _ _))⟩
        · exact .inl ⟨.inl rfl, fun a' W hB hold he K hK => fx_move (.tmp 0) _ (.inl rfl) (hold 0 (by decide)) (hK _ (Below.refl _ _))⟩
        · exact .inl ⟨.inl rfl, fun a' W hB hold he K hK => fx_move (.tmp 12) _ (.inl rfl) (hold 12 (by decide)) (hK _ (Below.refl _ _))⟩
        · exact .inl ⟨.inl rfl, fun a' W hB hold he K hK => (by have h0 : a'.eval (.tmp 46) = _ := (he ⟨11, .data⟩ (by simp) rfl); have h1 : a'.eval (.tmp 47) = _ := (he ⟨12, .data⟩ (by simp) rfl); exact wp_step_run (.pointer (some ⟨cb, off + k * 9, none⟩)) (by simp only [execOp, h0, h1]; go_simp) (hK _ (Below.refl _ _)))⟩
        · exact .inl ⟨.inl rfl, fun a' W hB hold he K hK => fx_field 32 (.tmp 48) 3 _ _ rfl (he ⟨13, .data⟩ (by simp) rfl) (by kernel_rfl) (hK _ (Below.refl _ _))⟩
        · exact .inl ⟨.inl rfl, fun a' W hB hold he K hK => wp_step_load 25 (.tmp 49) _ rfl _ (he ⟨14, .data⟩ (by simp) rfl) (call_v (range_below HR.out hB)) (hK _ (Below.refl _ _))⟩
        · exact .inl ⟨.inl rfl, fun a' W hB hold he K hK => (by have h0 : a'.eval (.tmp 50) = _ := (he ⟨15, .data⟩ (by simp) rfl); exact wp_step_call 13 #[_] (by simp only [execOp, h0]; simp [go_sem] <;> simp_all [Act.eval]) ((val_any W y.V.v).mono (by rintro e1 w' ⟨rfl, hb⟩; exact ⟨_, rfl, hK _ hb⟩)))⟩
      intro Wn hbn
      have H1 := hide (H1.out.below hbn)
      have HB := hide (HB.out.below hbn HB.out.lt)
      have B2 := hide (below_on B2.out hbn)
      clear hbn
      simp only [putAll, List.length_cons, List.length_nil, Nat.reduceAdd, List.drop_succ_cons, List.drop_zero]
      go_wp2_with fail
      refine (stk_store _ _ _ _ H1.out y.At y.Size y.V.v.av HFT.out).mono ?_
      rintro e wt ⟨rfl, hs, ht⟩
      have H1 := hide hs
      have HB := hide (HB.out.turned ht (fun h => by have := P1.out; omega))
      have B2 := hide (B2.out.trans (ht.below B2.out.size (fun k hk => by rcases hk with rfl | rfl; exact P1.out.1; exact P1.out.2.1)))
      clear hs ht
      go_wp2_with fail
      exact ⟨⟨k + 1, _, by omega, by simp, H1.out, HB.out, B2.out⟩, by simp [intOf]; omega⟩
    · have hdl : decide ((k : Int) < (N1 : Int)) = false := decide_eq_false (by omega)
      have b0 : wr.cell? ⟨w.heap.size, 0, none⟩ = some (.int .u8 v.Sort_) := HB.out.cell 0
      have b1 : wr.cell? ⟨w.heap.size, 1, none⟩ = some (.int .u64 v.N) := HB.out.cell 1
      have b2 : wr.cell? ⟨w.heap.size, 2, none⟩ = some (.int .i64 v.A) := HB.out.cell 2
      have b3 : wr.cell? ⟨w.heap.size, 3, none⟩ = some (.int .i64 v.B) := HB.out.cell 3
      have b4 : wr.cell? ⟨w.heap.size, 4, none⟩ = some (.int .i64 v.Off) := HB.out.cell 4
      have b5 : wr.cell? ⟨w.heap.size, 5, none⟩ = some (.int .u64 v.Gen) := HB.out.cell 5
      go_wp2_with fail
      refine (val_any _ v.v).mono ?_
      rintro e wt ⟨rfl, hb⟩
      have H1 := hide (H1.out.below hb)
      have HB := hide (HB.out.below hb HB.out.lt)
      have B2 := hide (below_on B2.out hb)
      clear hb b0 b1 b2 b3 b4 b5
      go_wp2_with fail
      have CS := stk_store _ _ _ _ H1.out a n v.v.av HV.out
      by_cases hc : (σ.store a n v.v.av).2 = 0
      · have HC := hide hc
        rw [hc] at CS
        refine CS.mono ?_
        rintro e wu ⟨rfl, hs, ht⟩
        have hok := H1.out.ok
        have H1 := hide hs
        have HB := hide (HB.out.turned ht (fun h => by have := P1.out; omega))
        have B2 := hide (B2.out.trans (ht.below B2.out.size (fun k hk => by rcases hk with rfl | rfl; exact P1.out.1; exact P1.out.2.1)))
        clear hs ht CS hc
        obtain ⟨hi, his, _⟩ := store_ways σ a n v.v.av HC.out
        obtain ⟨hn, ha0, ha1⟩ := load_in σ a n hi
        obtain ⟨f, hf⟩ : ∃ f : Nat, a + 128 = f := ⟨(a + 128).toNat, by omega⟩
        obtain ⟨m, rfl⟩ : ∃ m : Nat, n = m := ⟨n.toNat, by omega⟩
        have HK := hide (keep_new hok a m v.v.av HC.out f m hf rfl)
        have HI := hide hi
        have HIS := hide his
        have HN := hide hn
        have HF := hide hf
        have hfm : f + m ≤ 128 := by omega
        have hm8 : m ≤ 8 := by omega
        have hm1 : 1 ≤ m := by omega
        generalize (σ.store a m v.v.av).1 = σ0 at *
        clear hi his hn hf hok HC
        have b0 : wu.cell? ⟨w.heap.size, 0, none⟩ = some (.int .u8 v.Sort_) := HB.out.cell 0
        have b1 : wu.cell? ⟨w.heap.size, 1, none⟩ = some (.int .u64 v.N) := HB.out.cell 1
        have b2 : wu.cell? ⟨w.heap.size, 2, none⟩ = some (.int .i64 v.A) := HB.out.cell 2
        have b3 : wu.cell? ⟨w.heap.size, 3, none⟩ = some (.int .i64 v.B) := HB.out.cell 3
        have b4 : wu.cell? ⟨w.heap.size, 4, none⟩ = some (.int .i64 v.Off) := HB.out.cell 4
        have b5 : wu.cell? ⟨w.heap.size, 5, none⟩ = some (.int .u64 v.Gen) := HB.out.cell 5
        go_wp2_with fail
        refine (val_clean _ v.v).mono ?_
        rintro e wt ⟨rfl, hb⟩
        have H1 := hide (H1.out.below hb)
        have HB := hide (HB.out.below hb HB.out.lt)
        have B2 := hide (below_on B2.out hb)
        clear hb b0 b1 b2 b3 b4 b5
        obtain ⟨u, hu⟩ : ∃ u, u = v.v.av := ⟨_, rfl⟩
        rw [← hu] at HK HIS HV ⊢
        obtain ⟨pv, hpv⟩ : ∃ pv, pv = u.plain := ⟨_, rfl⟩
        rw [← hpv]
        have HPV := hide hpv
        clear hu hpv
        unfold V22.agg
        have g0 : wt.cell? ⟨w.heap.size, 0, none⟩ = some (.int .u8 v.Sort_) := HB.out.cell 0
        have g1 : wt.cell? ⟨w.heap.size, 1, none⟩ = some (.int .u64 v.N) := HB.out.cell 1
        have g2 : wt.cell? ⟨w.heap.size, 2, none⟩ = some (.int .i64 v.A) := HB.out.cell 2
        have g3 : wt.cell? ⟨w.heap.size, 3, none⟩ = some (.int .i64 v.B) := HB.out.cell 3
        have g4 : wt.cell? ⟨w.heap.size, 4, none⟩ = some (.int .i64 v.Off) := HB.out.cell 4
        have g5 : wt.cell? ⟨w.heap.size, 5, none⟩ = some (.int .u64 v.Gen) := HB.out.cell 5
        have f0 := HB.out.free 0
        have f1 := HB.out.free 1
        have f2 := HB.out.free 2
        have f3 := HB.out.free 3
        have f4 := HB.out.free 4
        have f5 := HB.out.free 5
        go_wp2_with fail
        have HB6 := hide (show Has ((((((wt.setCell ⟨w.heap.size, 0, none⟩ (.int .u8 pv.sort)).setCell ⟨w.heap.size, 1, none⟩ (.int .u64 pv.n)).setCell ⟨w.heap.size, 2, none⟩ (.int .i64 pv.a)).setCell ⟨w.heap.size, 3, none⟩ (.int .i64 pv.b)).setCell ⟨w.heap.size, 4, none⟩ (.int .i64 pv.off)).setCell ⟨w.heap.size, 5, none⟩ (.int .u64 pv.gen)) w.heap.size 25 #[.int .u8 pv.sort, .int .u64 pv.n, .int .i64 pv.a, .int .i64 pv.b, .int .i64 pv.off, .int .u64 pv.gen] from by
          have := (((((HB.out.set 0 (.int .u8 pv.sort)).set 1 (.int .u64 pv.n)).set 2 (.int .i64 pv.a)).set 3 (.int .i64 pv.b)).set 4 (.int .i64 pv.off)).set 5 (.int .u64 pv.gen)
          simpa using this)
        have HT6 := hide (show Turned (fun k => k = w.heap.size) wt ((((((wt.setCell ⟨w.heap.size, 0, none⟩ (.int .u8 pv.sort)).setCell ⟨w.heap.size, 1, none⟩ (.int .u64 pv.n)).setCell ⟨w.heap.size, 2, none⟩ (.int .i64 pv.a)).setCell ⟨w.heap.size, 3, none⟩ (.int .i64 pv.b)).setCell ⟨w.heap.size, 4, none⟩ (.int .i64 pv.off)).setCell ⟨w.heap.size, 5, none⟩ (.int .u64 pv.gen)) from
          ((((((Turned.refl (fun k => k = w.heap.size) wt).set (p := ⟨w.heap.size, 0, none⟩) (fun _ => rfl) _).set (p := ⟨w.heap.size, 1, none⟩) (fun _ => rfl) _).set (p := ⟨w.heap.size, 2, none⟩) (fun _ => rfl) _).set (p := ⟨w.heap.size, 3, none⟩) (fun _ => rfl) _).set (p := ⟨w.heap.size, 4, none⟩) (fun _ => rfl) _).set (p := ⟨w.heap.size, 5, none⟩) (fun _ => rfl) _)
        clear g0 g1 g2 g3 g4 g5 f0 f1 f2 f3 f4 f5
        generalize (((((wt.setCell ⟨w.heap.size, 0, none⟩ (.int .u8 pv.sort)).setCell ⟨w.heap.size, 1, none⟩ (.int .u64 pv.n)).setCell ⟨w.heap.size, 2, none⟩ (.int .i64 pv.a)).setCell ⟨w.heap.size, 3, none⟩ (.int .i64 pv.b)).setCell ⟨w.heap.size, 4, none⟩ (.int .i64 pv.off)).setCell ⟨w.heap.size, 5, none⟩ (.int .u64 pv.gen) = w6 at *
        have H1 := hide (H1.out.turned HT6.out (fun h => by have := P1.out; omega) (fun h => by have := P1.out; omega))
        have B2 := hide (B2.out.trans (HT6.out.below B2.out.size (fun k hk => by omega)))
        have HB := HB6
        clear HB6 HT6
        go_loopw [14, 15] (fun ov i wr => ∃ (k : Nat) (σ : Stk) (b : Bool), k ≤ N2 ∧ i = .int .i64 k ∧ ov = .bool b ∧ StkIs wr p mb σ ∧ Has wr w.heap.size 25 #[.int .u8 pv.sort, .int .u64 pv.n, .int .i64 pv.a, .int .i64 pv.b, .int .i64 pv.off, .int .u64 pv.gen] ∧ Below w.heap.size w wr ∧ (b = false → KeepAt σ f m u)) (fun _ i _ => N2 - (intOf i).toNat)
        case atStart => exact ⟨0, _, false, Nat.zero_le _, rfl, rfl, H1.out, HB.out, B2.out, fun _ => HK.out⟩
        case round =>
          clear H1 HB B2 HK hlt hk hdl
          obtain ⟨k, σ, b, hk, rfl, rfl, hS, hH, hB, hK⟩ := hrel
          have H1 := hide hS
          have HB := hide hH
          have B2 := hide hB
          have HK := hide hK
          clear hS hH hB hK
          by_cases hlt : k < N2
          · have hki : (k : Int) < (N2 : Int) := by omega
            have hdl : decide ((k : Int) < (N2 : Int)) = true := decide_eq_true hki
            have hkw : IntKind.i64.wrap ((k : Int) + 1) = (k : Int) + 1 := wrap_i64 (by omega) (by omega)
            obtain ⟨y, hy⟩ : ∃ x, l2[k]? = some x := ⟨_, List.getElem?_eq_getElem (by rw [HL2.out]; omega)⟩
            obtain ⟨cb, off, rfl, hcb, hcells⟩ := HS2.out.at_ B2.out (i := k) (cs := y.cells) (by rw [List.getElem?_map, hy]; rfl)
            have HFT := hide (S25.fits (HO2.out y (List.mem_of_getElem? hy)).2.2.2)
            have e0 : wr.cell? ⟨cb, off + k * 9, none⟩ = some (.int .u8 y.Do) := hcells 0 _ rfl
            have e1 : wr.cell? ⟨cb, off + k * 9 + 1, none⟩ = some (.int .i64 y.At) := hcells 1 _ rfl
            have e2 : wr.cell? ⟨cb, off + k * 9 + 2, none⟩ = some (.int .i64 y.Size) := hcells 2 _ rfl
            have e3 : wr.cell? ⟨cb, off + k * 9 + 3, none⟩ = some (.int .u8 y.V.Sort_) := hcells 3 _ rfl
            have e4 : wr.cell? ⟨cb, off + k * 9 + 4, none⟩ = some (.int .u64 y.V.N) := hcells 4 _ rfl
            have e5 : wr.cell? ⟨cb, off + k * 9 + 5, none⟩ = some (.int .i64 y.V.A) := hcells 5 _ rfl
            have e6 : wr.cell? ⟨cb, off + k * 9 + 6, none⟩ = some (.int .i64 y.V.B) := hcells 6 _ rfl
            have e7 : wr.cell? ⟨cb, off + k * 9 + 7, none⟩ = some (.int .i64 y.V.Off) := hcells 7 _ rfl
            have e8 : wr.cell? ⟨cb, off + k * 9 + 8, none⟩ = some (.int .u64 y.V.Gen) := hcells 8 _ rfl
            have BQ := (Below.refl wr.heap.size wr).alloc (Nat.le_refl _) (.cells #[.int .u8 y.Do, .int .i64 y.At, .int .i64 y.Size, .int .u8 y.V.Sort_, .int .u64 y.V.N, .int .i64 y.V.A, .int .i64 y.V.B, .int .i64 y.V.Off, .int .u64 y.V.Gen] 32)
            have UU := hide (show p < wr.heap.size ∧ mb < wr.heap.size from ⟨H1.out.ltp, H1.out.ltm⟩)
            have H1 := hide (H1.out.below BQ)
            have HB := hide (HB.out.below BQ HB.out.lt)
            have B2 := hide (below_on B2.out BQ)
            have Q2 := hide (show Has (wr.alloc (.cells #[.int .u8 y.Do, .int .i64 y.At, .int .i64 y.Size, .int .u8 y.V.Sort_, .int .u64 y.V.N, .int .i64 y.V.A, .int .i64 y.V.B, .int .i64 y.V.Off, .int .u64 y.V.Gen] 32)) wr.heap.size 32 y.cells.toArray from Has.new wr _ _)
            clear hy hcells hcb BQ
            go_wp2_with fail
            clear e0 e1 e2 e3 e4 e5 e6 e7 e8
            generalize wr.alloc (.cells #[.int .u8 y.Do, .int .i64 y.At, .int .i64 y.Size, .int .u8 y.V.Sort_, .int .u64 y.V.N, .int .i64 y.V.A, .int .i64 y.V.B, .int .i64 y.V.Off, .int .u64 y.V.Gen] 32) = W0 at *
            generalize wr.heap.size = q at *
            have HR := hide (range_has Q2.out)
            clear Q2
            refine wp_region_fixed [75, 76, 77, 78, 79, 80, 81, 82]
              [.pointer (some ⟨p, 0, none⟩), .pointer (some ⟨q, 1, none⟩), .int .i64 y.At, .pointer (some ⟨q, 2, none⟩), .int .i64 y.Size, .pointer (some ⟨q, 3, none⟩), y.V.v.agg, y.V.v.av.enc] (by kernel_rfl) (by simp) rfl (by kernel_rfl) (by kernel_rfl) (by kernel_rfl) (by simp) (by decide) ?_ ?_
            · refine ⟨?_, ?_, ?_, ?_, ?_, ?_, ?_, ?_, trivial⟩
              · exact .inl ⟨.inl rfl, fun a' W hB hold he K hK => fx_move (.tmp 11) _ (.inl rfl) (hold 11 (by decide)) (hK _ (Below.refl _ _))⟩
              · exact .inl ⟨.inl rfl, fun a' W hB hold he K hK => fx_field 32 (.tmp 16) 1 _ _ rfl (hold 16 (by decide)) (by kernel_rfl) (hK _ (Below.refl _ _))⟩
              · exact .inl ⟨.inl rfl, fun a' W hB hold he K hK => wp_step_load 3 (.tmp 76) _ rfl _ (he ⟨1, .data⟩ (by simp) rfl) (call_at (range_below HR.out hB)) (hK _ (Below.refl _ _))⟩
              · exact .inl ⟨.inl rfl, fun a' W hB hold he K hK => fx_field 32 (.tmp 16) 2 _ _ rfl (hold 16 (by decide)) (by kernel_rfl) (hK _ (Below.refl _ _))⟩
              · exact .inl ⟨.inl rfl, fun a' W hB hold he K hK => wp_step_load 3 (.tmp 78) _ rfl _ (he ⟨3, .data⟩ (by simp) rfl) (call_size (range_below HR.out hB)) (hK _ (Below.refl _ _))⟩
              · exact .inl ⟨.inl rfl, fun a' W hB hold he K hK => fx_field 32 (.tmp 16) 3 _ _ rfl (hold 16 (by decide)) (by kernel_rfl) (hK _ (Below.refl _ _))⟩
              · exact .inl ⟨.inl rfl, fun a' W hB hold he K hK => wp_step_load 25 (.tmp 80) _ rfl _ (he ⟨5, .data⟩ (by simp) rfl) (call_v (range_below HR.out hB)) (hK _ (Below.refl _ _))⟩
              · exact .inl ⟨.inl rfl, fun a' W hB hold he K hK => (by have h0 : a'.eval (.tmp 81) = _ := (he ⟨6, .data⟩ (by simp) rfl); exact wp_step_call 13 #[_] (by simp only [execOp, h0]; simp [go_sem] <;> simp_all [Act.eval]) ((val_any W y.V.v).mono (by rintro e1 w' ⟨rfl, hb⟩; exact ⟨_, rfl, hK _ hb⟩)))⟩
            intro Wn hbn
            have H1 := hide (H1.out.below hbn)
            have HB := hide (HB.out.below hbn HB.out.lt)
            have B2 := hide (below_on B2.out hbn)
            have HR := hide (range_below HR.out hbn)
            clear hbn
            simp only [putAll, List.length_cons, List.length_nil, Nat.reduceAdd, List.drop_succ_cons, List.drop_zero]
            go_wp2_with fail
            have CS := stk_store _ _ _ _ H1.out y.At y.Size y.V.v.av HFT.out
            by_cases hc : (σ.store y.At y.Size y.V.v.av).2 = 0
            · have HC := hide hc
              rw [hc] at CS
              refine CS.mono ?_
              rintro e wv ⟨rfl, hs, ht⟩
              have H1 := hide hs
              have HB := hide (HB.out.turned ht (fun h => by have := P1.out; omega))
              have HR := hide (range_turned HR.out ht (fun h => by have := UU.out; omega))
              have B2 := hide (B2.out.trans (ht.below B2.out.size (fun k hk => by rcases hk with rfl | rfl; exact P1.out.1; exact P1.out.2.1)))
              clear hs ht CS
              obtain ⟨hyi, _, _⟩ := store_ways σ y.At y.Size y.V.v.av HC.out
              obtain ⟨hyn, hy0, hy1⟩ := load_in σ y.At y.Size hyi
              have hwa : IntKind.i64.wrap (a + (m : Int)) = a + (m : Int) := wrap_i64 (by omega) (by omega)
              have hwy : IntKind.i64.wrap (y.At + y.Size) = y.At + y.Size := wrap_i64 (by omega) (by omega)
              have r1 : wv.cell? ⟨q, 1, none⟩ = some (.int .i64 y.At) := HR.out 1 _ rfl
              have r2 : wv.cell? ⟨q, 2, none⟩ = some (.int .i64 y.Size) := HR.out 2 _ rfl
              clear hc hyi hyn
              generalize hya : y.At = ya at *
              generalize hys : y.Size = ys at *
              have HYA := hide hya
              have HYS := hide hys
              clear hya hys
              cases b with
              | true =>
                go_wp2_with fail
                exact ⟨⟨k + 1, _, true, by omega, by simp, rfl, H1.out, HB.out, B2.out, fun h => by cases h⟩, by simp [intOf]; omega⟩
              | false =>
                by_cases t1 : ya < a + (m : Int)
                · have d1 : decide (ya < a + (m : Int)) = true := decide_eq_true t1
                  by_cases t2 : a < ya + ys
                  · have d2 : decide (a < ya + ys) = true := decide_eq_true t2
                    go_wp2_with fail
                    exact ⟨⟨k + 1, _, true, by omega, by simp, rfl, H1.out, HB.out, B2.out, fun h => by cases h⟩, by simp [intOf]; omega⟩
                  · have d2 : decide (a < ya + ys) = false := decide_eq_false t2
                    have hk2 := keep_store (HK.out rfl) ya ys y.V.v.av HC.out (by have := HF.out; omega) hfm
                    have HK2 := hide hk2
                    clear hk2
                    go_wp2_with fail
                    exact ⟨⟨k + 1, _, false, by omega, by simp, rfl, H1.out, HB.out, B2.out, fun _ => HK2.out⟩, by simp [intOf]; omega⟩
                · have d1 : decide (ya < a + (m : Int)) = false := decide_eq_false t1
                  have hk2 := keep_store (HK.out rfl) ya ys y.V.v.av HC.out (by have := HF.out; omega) hfm
                  have HK2 := hide hk2
                  clear hk2
                  go_wp2_with fail
                  exact ⟨⟨k + 1, _, false, by omega, by simp, rfl, H1.out, HB.out, B2.out, fun _ => HK2.out⟩, by simp [intOf]; omega⟩
            · have hsame := store_not σ y.At y.Size y.V.v.av hc
              have hc2 : ((σ.store y.At y.Size y.V.v.av).2 == 0) = false := beq_eq_false_iff_ne.2 hc
              rw [hsame] at CS
              generalize (σ.store y.At y.Size y.V.v.av).2 = cc at *
              refine CS.mono ?_
              rintro e wv ⟨rfl, hs, ht⟩
              have H1 := hide hs
              have HB := hide (HB.out.turned ht (fun h => by have := P1.out; omega))
              have HR := hide (range_turned HR.out ht (fun h => by have := UU.out; omega))
              have B2 := hide (B2.out.trans (ht.below B2.out.size (fun k hk => by rcases hk with rfl | rfl; exact P1.out.1; exact P1.out.2.1)))
              clear hs ht CS
              have HC := hide hc
              clear hc hsame
              go_wp2_with fail
              exact ⟨⟨k + 1, _, b, by omega, by simp, rfl, H1.out, HB.out, B2.out, HK.out⟩, by simp [intOf]; omega⟩
          · have hdl : decide ((k : Int) < (N2 : Int)) = false := decide_eq_false (by omega)
            have CL := stk_load _ _ _ _ H1.out a m
            have HLC := hide (load_codes σ a m HI.out)
            cases b with
            | true =>
              generalize σ.load a m = L at *
              obtain ⟨lv, lc⟩ := L
              simp only [] at CL HLC
              generalize lv.enc = le at *
              have CL := hide CL
              go_wp2_with fail
              refine (CL.out).mono ?_
              rintro e wz ⟨rfl, hb⟩
              have HB := hide (HB.out.below hb HB.out.lt)
              have B2 := hide (below_on B2.out hb)
              clear hb
              have b0 : wz.cell? ⟨w.heap.size, 0, none⟩ = some (.int .u8 pv.sort) := HB.out.cell 0
              have b1 : wz.cell? ⟨w.heap.size, 1, none⟩ = some (.int .u64 pv.n) := HB.out.cell 1
              have b2 : wz.cell? ⟨w.heap.size, 2, none⟩ = some (.int .i64 pv.a) := HB.out.cell 2
              have b3 : wz.cell? ⟨w.heap.size, 3, none⟩ = some (.int .i64 pv.b) := HB.out.cell 3
              have b4 : wz.cell? ⟨w.heap.size, 4, none⟩ = some (.int .i64 pv.off) := HB.out.cell 4
              have b5 : wz.cell? ⟨w.heap.size, 5, none⟩ = some (.int .u64 pv.gen) := HB.out.cell 5
              obtain ⟨s1, hs1⟩ : ∃ b, (pv.sort == 1) = b := ⟨_, rfl⟩
              have HLC2 := HLC.out
              clear HLC
              rcases HLC2 with rfl | rfl | rfl <;> cases s1
              all_goals
                go_wp2_with fail
                refine (stk_alive _).mono ?_
                rintro e wz ⟨rfl, hb⟩
                have HB := hide (HB.out.below hb HB.out.lt)
                have B2 := hide (below_on B2.out hb)
                clear hb
                go_wp2_with fail
                go_ret
                exact ⟨rfl, B2.out⟩
            | false =>
              have hk := HK.out rfl
              unfold KeepAt at hk
              have hsn := plain_num HIS.out
              rw [← HPV.out] at hsn
              cases hno : u.numOf with
              | some x =>
                rw [hno] at hk hsn
                have hux : u = .num x := by
                  rcases u.num_form with ⟨z, _, rfl⟩ | ⟨_, h⟩
                  · simp only [AV.numOf] at hno; injection hno with h; rw [h]
                  · rw [h] at hno; cases hno
                have hfx : 0 ≤ x ∧ x < 18446744073709551616 := by
                  have := HV.out
                  rw [hux] at this
                  exact this
                have hl := keeps_num_load hk a HF.out HI.out hfx.1 hfx.2
                rw [hl] at CL
                have hlow := low_of x m HN.out
                have hpn : pv.n = x := by rw [HPV.out, hux]; rfl
                have CW := fun w => ref_low x m hfx.1 hfx.2 w
                rw [hlow] at CW
                have CI : ∀ (w : World), Calls Try.prog 16 #[AV.enc (.num (x % 256 ^ m)), V22.agg ⟨1, x % 256 ^ m, 0, 0, 0, 0⟩] w fun e w' => e = .returned (.bool true) ∧ Below w.heap.size w w' := fun w => by
                  have := val_law_is w (.num (x % 256 ^ m)) ⟨1, x % 256 ^ m, 0, 0, 0, 0⟩
                  rw [show decide ((AV.num (x % 256 ^ m)).plain = (⟨1, x % 256 ^ m, 0, 0, 0, 0⟩ : V22)) = true by simp [AV.plain]] at this
                  exact this
                have CN := fun w => law_num w (x % 256 ^ m)
                simp only [AV.enc, V22.agg] at CL CI CN
                generalize x % 256 ^ m = z at *
                have CL := hide CL
                have CW := hide CW
                have CI := hide CI
                have CN := hide CN
                have hsn : (pv.sort == 1) = true := hsn
                clear hl hlow hk hux hfx hno
                go_wp2_with fail
                refine (CL.out).mono ?_
                rintro e wz ⟨rfl, hb⟩
                have HB := hide (HB.out.below hb HB.out.lt)
                have B2 := hide (below_on B2.out hb)
                clear hb
                have b0 : wz.cell? ⟨w.heap.size, 0, none⟩ = some (.int .u8 pv.sort) := HB.out.cell 0
                have b1 : wz.cell? ⟨w.heap.size, 1, none⟩ = some (.int .u64 pv.n) := HB.out.cell 1
                have b2 : wz.cell? ⟨w.heap.size, 2, none⟩ = some (.int .i64 pv.a) := HB.out.cell 2
                have b3 : wz.cell? ⟨w.heap.size, 3, none⟩ = some (.int .i64 pv.b) := HB.out.cell 3
                have b4 : wz.cell? ⟨w.heap.size, 4, none⟩ = some (.int .i64 pv.off) := HB.out.cell 4
                have b5 : wz.cell? ⟨w.heap.size, 5, none⟩ = some (.int .u64 pv.gen) := HB.out.cell 5
                have hw0 := hpn
                rw [hpn] at b1
                rw [hpn] at HB
                go_wp2_with fail
                refine (CW.out _).mono ?_
                rintro e wz ⟨rfl, hb⟩
                have HB := hide (HB.out.below hb HB.out.lt)
                have B2 := hide (below_on B2.out hb)
                clear hb
                go_wp2_with fail
                refine (CN.out _).mono ?_
                rintro e wz ⟨rfl, hb⟩
                have HB := hide (HB.out.below hb HB.out.lt)
                have B2 := hide (below_on B2.out hb)
                clear hb
                go_wp2_with fail
                refine (CI.out _).mono ?_
                rintro e wz ⟨rfl, hb⟩
                have HB := hide (HB.out.below hb HB.out.lt)
                have B2 := hide (below_on B2.out hb)
                clear hb
                go_wp2_with fail
                refine (stk_alive _).mono ?_
                rintro e wz ⟨rfl, hb⟩
                have HB := hide (HB.out.below hb HB.out.lt)
                have B2 := hide (below_on B2.out hb)
                clear hb
                go_wp2_with fail
                go_ret
                exact ⟨rfl, B2.out⟩
              | none =>
                rw [hno] at hk hsn
                obtain ⟨hkp, h8, hf8⟩ := hk
                have hl := keeps_ptr_load hkp HIS.out hf8 a HF.out (by have := HI.out; rw [h8] at this; exact this)
                have hl2 : σ.load a m = (u, 0) := by rw [h8]; exact hl
                rw [hl2] at CL
                have CI : ∀ (w : World), Calls Try.prog 16 #[u.enc, V22.agg pv] w fun e w' => e = .returned (.bool true) ∧ Below w.heap.size w w' := fun w => by
                  have := val_law_is w u pv
                  rw [show decide (u.plain = pv) = true from decide_eq_true HPV.out.symm] at this
                  exact this
                simp only [V22.agg] at CI
                simp only [] at CL
                generalize u.enc = ue at *
                have CL := hide CL
                have CI := hide CI
                have hsn : (pv.sort == 1) = false := hsn
                clear hl hl2 hkp hno h8 hf8
                go_wp2_with fail
                refine (CL.out).mono ?_
                rintro e wz ⟨rfl, hb⟩
                have HB := hide (HB.out.below hb HB.out.lt)
                have B2 := hide (below_on B2.out hb)
                clear hb
                have b0 : wz.cell? ⟨w.heap.size, 0, none⟩ = some (.int .u8 pv.sort) := HB.out.cell 0
                have b1 : wz.cell? ⟨w.heap.size, 1, none⟩ = some (.int .u64 pv.n) := HB.out.cell 1
                have b2 : wz.cell? ⟨w.heap.size, 2, none⟩ = some (.int .i64 pv.a) := HB.out.cell 2
                have b3 : wz.cell? ⟨w.heap.size, 3, none⟩ = some (.int .i64 pv.b) := HB.out.cell 3
                have b4 : wz.cell? ⟨w.heap.size, 4, none⟩ = some (.int .i64 pv.off) := HB.out.cell 4
                have b5 : wz.cell? ⟨w.heap.size, 5, none⟩ = some (.int .u64 pv.gen) := HB.out.cell 5
                go_wp2_with fail
                refine (CI.out _).mono ?_
                rintro e wz ⟨rfl, hb⟩
                have HB := hide (HB.out.below hb HB.out.lt)
                have B2 := hide (below_on B2.out hb)
                clear hb
                go_wp2_with fail
                refine (stk_alive _).mono ?_
                rintro e wz ⟨rfl, hb⟩
                have HB := hide (HB.out.below hb HB.out.lt)
                have B2 := hide (below_on B2.out hb)
                clear hb
                go_wp2_with fail
                go_ret
                exact ⟨rfl, B2.out⟩
      · have hc2 : ((σ.store a n v.v.av).2 == 0) = false := beq_eq_false_iff_ne.2 hc
        generalize σ.store a n v.v.av = ST at *
        refine CS.mono ?_
        rintro e wu ⟨rfl, hs, ht⟩
        have B2 := hide (B2.out.trans (ht.below B2.out.size (fun k hk => by rcases hk with rfl | rfl; exact P1.out.1; exact P1.out.2.1)))
        have HC := hide hc
        clear hs ht CS
        go_wp2_with fail
        refine (stk_alive _).mono ?_
        rintro e w4 ⟨rfl, hb⟩
        have B2 := hide (below_on B2.out hb)
        clear hb
        go_wp2_with fail
        go_ret
        exact ⟨rfl, B2.out⟩

end Go.Proofs.Ytcddpmiandgkjaa
