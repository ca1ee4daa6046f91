import Derived.Test.YtcddpmiandgkjaaStkSame
/-! The law StackPlays. -/
namespace Go.Proofs.Ytcddpmiandgkjaa
open Go.RowKit Go.Maps Go.Lib Go.Deep
set_option maxHeartbeats 8000000
set_option maxRecDepth 100000
set_option linter.unusedSimpArgs false
set_option linter.unusedVariables false

theorem cell_below {w w' : World} {b o : Nat} (hb : Below w.heap.size w w') (h : b < w.heap.size) : w'.cell? ⟨b, o, none⟩ = w.cell? ⟨b, o, none⟩ := World.cell?_of_block (hb.block b h)

theorem XtkIs.aside {w w' : World} {p mb x : Nat} {σ : Stk} (h : XtkIs w x σ) (ht : Turned (fun k => k = p ∨ k = mb) w w') (h1 : x ≠ p) (h2 : x ≠ mb) : XtkIs w' x σ :=
  h.turned ht (fun e => by rcases e with e | e; exact h1 e; exact h2 e)

theorem stack_plays_law (w : World) (A : Option Addr) (N c : Nat) (l : List S32) (hl : l.length = N) (_ : N ≤ 9223372036854775807) (hs : SliceOf w A 9 (l.map S32.cells)) (hok : ∀ x ∈ l, x.ok) :
    Calls Try.prog 4 #[.slice A N c] w fun e w' => e = .returned (.bool true) ∧ Below w.heap.size w w' := by
  have HL := hide hl
  have HS := hide hs
  have HO := hide hok
  clear hl hs hok
  by_cases h200 : 200 < N
  · have hd : decide ((200 : Int) < N) = true := decide_eq_true (by omega)
    go_enter Try.func4, Try.ntmps4
    go_wp2_with fail
    refine (stk_alive _).mono ?_
    rintro e w4 ⟨rfl, hb⟩
    go_wp2_with fail
    go_ret
    exact ⟨rfl, hb⟩
  have hd : decide ((200 : Int) < N) = false := decide_eq_false (by omega)
  go_enter Try.func4, Try.ntmps4
  go_wp2_with fail
  refine (stk_new _).mono ?_
  rintro e w1 ⟨p, mb, rfl, hs, hp, hmb, hb⟩
  have P1 := hide (And.intro hp hmb)
  have B1 := hide hb
  have H1 := hide hs
  clear hb hp hmb hs
  go_wp2_with fail
  have hz : Try.zeroCells46 = Stk.new.rcells := by kernel_rfl
  rw [hz]
  have BX := (Below.refl w1.heap.size w1).alloc (Nat.le_refl _) (.cells Stk.new.rcells 46)
  have HX := hide (show XtkIs (w1.alloc (.cells Stk.new.rcells 46)) w1.heap.size Stk.new from ⟨Has.new w1 _ _, Stk.new_ok⟩)
  have AX := hide (show w1.heap.size ≠ p ∧ w1.heap.size ≠ mb ∧ w.heap.size ≤ w1.heap.size from by
    have h1 := H1.out.ltp
    have h2 := H1.out.ltm
    have h3 := B1.out.size
    exact ⟨by omega, by omega, h3⟩)
  have H1 := hide (H1.out.below BX)
  have B1 := hide (below_on B1.out BX)
  clear BX hz
  generalize w1.alloc (.cells Stk.new.rcells 46) = w2 at *
  generalize w1.heap.size = x at *
  go_loopw [5] (fun i wr => ∃ (k : Nat) (σ : Stk), k ≤ N ∧ i = .int .i64 k ∧ StkIs wr p mb σ ∧ XtkIs wr x σ ∧ Below w.heap.size w wr) (fun i _ => N - (intOf i).toNat)
  case atStart => exact ⟨0, _, Nat.zero_le _, rfl, H1.out, HX.out, B1.out⟩
  case round =>
    clear H1 HX B1
    obtain ⟨k, σ, hk, rfl, hS, hX, hB⟩ := hrel
    by_cases hlt : k < N
    · have hki : (k : Int) < (N : Int) := by omega
      have hdl : decide ((k : Int) < (N : Int)) = true := decide_eq_true hki
      have hkw : IntKind.i64.wrap ((k : Int) + 1) = (k : Int) + 1 := wrap_i64 (by omega) (by omega)
      obtain ⟨y, hy⟩ : ∃ x, l[k]? = some x := ⟨_, List.getElem?_eq_getElem (by rw [HL.out]; exact hlt)⟩
      have hyo := HO.out y (List.mem_of_getElem? hy)
      obtain ⟨cb, off, rfl, hcb, hcells⟩ := HS.out.at_ hB (i := k) (cs := y.cells) (by rw [List.getElem?_map, hy]; rfl)
      have e0 : wr.cell? ⟨cb, off + k * 9, none⟩ = some (.int .u8 y.Do) := hcells 0 _ rfl
      have e1 : wr.cell? ⟨cb, off + k * 9 + 1, none⟩ = some (.int .i64 y.At) := hcells 1 _ rfl
      have e2 : wr.cell? ⟨cb, off + k * 9 + 2, none⟩ = some (.int .i64 y.Size) := hcells 2 _ rfl
      have e3 : wr.cell? ⟨cb, off + k * 9 + 3, none⟩ = some (.int .u8 y.V.Sort_) := hcells 3 _ rfl
      have e4 : wr.cell? ⟨cb, off + k * 9 + 4, none⟩ = some (.int .u64 y.V.N) := hcells 4 _ rfl
      have e5 : wr.cell? ⟨cb, off + k * 9 + 5, none⟩ = some (.int .i64 y.V.A) := hcells 5 _ rfl
      have e6 : wr.cell? ⟨cb, off + k * 9 + 6, none⟩ = some (.int .i64 y.V.B) := hcells 6 _ rfl
      have e7 : wr.cell? ⟨cb, off + k * 9 + 7, none⟩ = some (.int .i64 y.V.Off) := hcells 7 _ rfl
      have e8 : wr.cell? ⟨cb, off + k * 9 + 8, none⟩ = some (.int .u64 y.V.Gen) := hcells 8 _ rfl
      have BQ := (Below.refl wr.heap.size wr).alloc (Nat.le_refl _) (.cells #[.int .u8 y.Do, .int .i64 y.At, .int .i64 y.Size, .int .u8 y.V.Sort_, .int .u64 y.V.N, .int .i64 y.V.A, .int .i64 y.V.B, .int .i64 y.V.Off, .int .u64 y.V.Gen] 32)
      have UU := hide (show p < wr.heap.size ∧ mb < wr.heap.size ∧ x < wr.heap.size from ⟨hS.ltp, hS.ltm, hX.lt⟩)
      have H1 := hide (hS.below BQ)
      have HX := hide (hX.below BQ)
      have B1 := hide (below_on hB BQ)
      have Q2 := hide (show Has (wr.alloc (.cells #[.int .u8 y.Do, .int .i64 y.At, .int .i64 y.Size, .int .u8 y.V.Sort_, .int .u64 y.V.N, .int .i64 y.V.A, .int .i64 y.V.B, .int .i64 y.V.Off, .int .u64 y.V.Gen] 32)) wr.heap.size 32 y.cells.toArray from Has.new wr _ _)
      have HFT := hide (S25.fits hyo.2.2.2)
      have HVN := hide (show 0 ≤ y.V.N ∧ y.V.N < 18446744073709551616 by
        have := hyo.2.2.2.2.1
        simp [Lit.wf, IntKind.min, IntKind.max, IntKind.bits, IntKind.signed] at this
        omega)
      have hdo : 0 ≤ y.Do ∧ y.Do < 256 := by
        have := hyo.1
        simp [Lit.wf, IntKind.min, IntKind.max, IntKind.bits, IntKind.signed] at this
        omega
      clear hy hyo hcells hS hX hB hcb BQ
      obtain ⟨W0, hW0⟩ : ∃ W0, W0 = wr.alloc (.cells #[.int .u8 y.Do, .int .i64 y.At, .int .i64 y.Size, .int .u8 y.V.Sort_, .int .u64 y.V.N, .int .i64 y.V.A, .int .i64 y.V.B, .int .i64 y.V.Off, .int .u64 y.V.Gen] 32) := ⟨_, rfl⟩
      rw [← hW0] at H1 HX B1 Q2
      have HW0 := hide hW0
      clear hW0
      obtain ⟨u, hu⟩ : ∃ u, u = wr.heap.size := ⟨_, rfl⟩
      rw [← hu] at UU Q2
      have HU := hide hu
      clear hu
      have hr : y.Do % 8 = 0 ∨ y.Do % 8 = 1 ∨ y.Do % 8 = 2 ∨ y.Do % 8 = 3 ∨ y.Do % 8 = 4 ∨ y.Do % 8 = 5 ∨ y.Do % 8 = 6 ∨ y.Do % 8 = 7 := by omega
      have HR := hide (range_has Q2.out)
      rcases hr with hr | hr | hr | hr | hr | hr | hr | hr
      · go_wp2_with fail
        clear e0 e1 e2 e3 e4 e5 e6 e7 e8
        rw [← HW0.out, ← HU.out]
        have q1 : W0.cell? ⟨u, 1, none⟩ = some (.int .i64 y.At) := HR.out 1 _ rfl
        have q2 : W0.cell? ⟨u, 2, none⟩ = some (.int .i64 y.Size) := HR.out 2 _ rfl
        have q3 : W0.cell? ⟨u, 3, none⟩ = some (.int .u8 y.V.Sort_) := HR.out 3 _ rfl
        have q4 : W0.cell? ⟨u, 4, none⟩ = some (.int .u64 y.V.N) := HR.out 4 _ rfl
        have q5 : W0.cell? ⟨u, 5, none⟩ = some (.int .i64 y.V.A) := HR.out 5 _ rfl
        have q6 : W0.cell? ⟨u, 6, none⟩ = some (.int .i64 y.V.B) := HR.out 6 _ rfl
        have q7 : W0.cell? ⟨u, 7, none⟩ = some (.int .i64 y.V.Off) := HR.out 7 _ rfl
        have q8 : W0.cell? ⟨u, 8, none⟩ = some (.int .u64 y.V.Gen) := HR.out 8 _ rfl
        have hSd : StkIs W0.drew p mb σ := H1.out.drew
        have hXd : XtkIs W0.drew x σ := HX.out.drew
        have hu1 : ¬ (u = p ∨ u = mb) := by have := UU.out; omega
        have hu2 : ¬ u = x := by have := UU.out; omega
        have hul : u < W0.drew.heap.size := Q2.out.lt
        go_region_held3 (fun w' => w'.cell? ⟨u, 1, none⟩ = some (.int .i64 y.At) ∧ w'.cell? ⟨u, 2, none⟩ = some (.int .i64 y.Size) ∧ w'.cell? ⟨u, 3, none⟩ = some (.int .u8 y.V.Sort_) ∧ w'.cell? ⟨u, 4, none⟩ = some (.int .u64 y.V.N) ∧ w'.cell? ⟨u, 5, none⟩ = some (.int .i64 y.V.A) ∧ w'.cell? ⟨u, 6, none⟩ = some (.int .i64 y.V.B) ∧ w'.cell? ⟨u, 7, none⟩ = some (.int .i64 y.V.Off) ∧ w'.cell? ⟨u, 8, none⟩ = some (.int .u64 y.V.Gen))
          (first
            | go_keep
            | (go_split_ands; exact ⟨t7.cell (by assumption) hu2, t7.cell (by assumption) hu2, t7.cell (by assumption) hu2, t7.cell (by assumption) hu2, t7.cell (by assumption) hu2, t7.cell (by assumption) hu2, t7.cell (by assumption) hu2, t7.cell (by assumption) hu2⟩)
            | (go_split_ands; exact ⟨t6.cell (by assumption) hu1, t6.cell (by assumption) hu1, t6.cell (by assumption) hu1, t6.cell (by assumption) hu1, t6.cell (by assumption) hu1, t6.cell (by assumption) hu1, t6.cell (by assumption) hu1, t6.cell (by assumption) hu1⟩)
            | (go_split_ands; exact ⟨(cell_below t5 hul).trans (by assumption), (cell_below t5 hul).trans (by assumption), (cell_below t5 hul).trans (by assumption), (cell_below t5 hul).trans (by assumption), (cell_below t5 hul).trans (by assumption), (cell_below t5 hul).trans (by assumption), (cell_below t5 hul).trans (by assumption), (cell_below t5 hul).trans (by assumption)⟩))
          (first
            | (go_at_call 13; refine (val_any _ y.V.v).mono ?_; rintro e w4 ⟨rfl, t5⟩)
            | (go_at_call 12; refine (stk_store _ p mb σ (hSd.below t5) y.At y.Size y.V.v.av HFT.out).mono ?_; rintro e w5 ⟨rfl, hs5, t6⟩)
            | (go_at_call 19; refine (xtk_store _ x σ ((hXd.below t5).aside t6 AX.out.1 AX.out.2.1) y.At y.Size y.V.v HFT.out).mono ?_; rintro e w6 ⟨rfl, hx6, t7⟩))
        have H1 := hide (hs5.turned t7 (Ne.symm AX.out.1) (Ne.symm AX.out.2.1))
        have HX := hide hx6
        have B1 := hide (((below_on B1.out.drew t5).trans (t6.below (below_on B1.out.drew t5).size (fun k hk => by rcases hk with rfl | rfl; exact P1.out.1; exact P1.out.2))).trans (t7.below (Nat.le_trans (below_on B1.out.drew t5).size t6.size) (fun k hk => by rw [hk]; exact AX.out.2.2)))
        clear hs5 hx6 t5 t6 t7 hSd hXd
        clear q1 q2 q3 q4 q5 q6 q7 q8
        go_wp2_with fail
        exact ⟨⟨k + 1, _, by omega, by simp, H1.out, HX.out, B1.out⟩, by simp [intOf]; omega⟩
      · go_wp2_with fail
        clear e0 e1 e2 e3 e4 e5 e6 e7 e8
        rw [← HW0.out, ← HU.out]
        have q1 : W0.cell? ⟨u, 1, none⟩ = some (.int .i64 y.At) := HR.out 1 _ rfl
        have q2 : W0.cell? ⟨u, 2, none⟩ = some (.int .i64 y.Size) := HR.out 2 _ rfl
        have q3 : W0.cell? ⟨u, 3, none⟩ = some (.int .u8 y.V.Sort_) := HR.out 3 _ rfl
        have q4 : W0.cell? ⟨u, 4, none⟩ = some (.int .u64 y.V.N) := HR.out 4 _ rfl
        have q5 : W0.cell? ⟨u, 5, none⟩ = some (.int .i64 y.V.A) := HR.out 5 _ rfl
        have q6 : W0.cell? ⟨u, 6, none⟩ = some (.int .i64 y.V.B) := HR.out 6 _ rfl
        have q7 : W0.cell? ⟨u, 7, none⟩ = some (.int .i64 y.V.Off) := HR.out 7 _ rfl
        have q8 : W0.cell? ⟨u, 8, none⟩ = some (.int .u64 y.V.Gen) := HR.out 8 _ rfl
        have hSd : StkIs W0.drew p mb σ := H1.out.drew
        have hXd : XtkIs W0.drew x σ := HX.out.drew
        have hu1 : ¬ (u = p ∨ u = mb) := by have := UU.out; omega
        have hu2 : ¬ u = x := by have := UU.out; omega
        have hul : u < W0.drew.heap.size := Q2.out.lt
        go_region_held3 (fun w' => w'.cell? ⟨u, 1, none⟩ = some (.int .i64 y.At) ∧ w'.cell? ⟨u, 2, none⟩ = some (.int .i64 y.Size) ∧ w'.cell? ⟨u, 3, none⟩ = some (.int .u8 y.V.Sort_) ∧ w'.cell? ⟨u, 4, none⟩ = some (.int .u64 y.V.N) ∧ w'.cell? ⟨u, 5, none⟩ = some (.int .i64 y.V.A) ∧ w'.cell? ⟨u, 6, none⟩ = some (.int .i64 y.V.B) ∧ w'.cell? ⟨u, 7, none⟩ = some (.int .i64 y.V.Off) ∧ w'.cell? ⟨u, 8, none⟩ = some (.int .u64 y.V.Gen))
          (first
            | go_keep
            | (go_split_ands; exact ⟨t7.cell (by assumption) hu2, t7.cell (by assumption) hu2, t7.cell (by assumption) hu2, t7.cell (by assumption) hu2, t7.cell (by assumption) hu2, t7.cell (by assumption) hu2, t7.cell (by assumption) hu2, t7.cell (by assumption) hu2⟩)
            | (go_split_ands; exact ⟨t6.cell (by assumption) hu1, t6.cell (by assumption) hu1, t6.cell (by assumption) hu1, t6.cell (by assumption) hu1, t6.cell (by assumption) hu1, t6.cell (by assumption) hu1, t6.cell (by assumption) hu1, t6.cell (by assumption) hu1⟩)
            | (go_split_ands; exact ⟨(cell_below t5 hul).trans (by assumption), (cell_below t5 hul).trans (by assumption), (cell_below t5 hul).trans (by assumption), (cell_below t5 hul).trans (by assumption), (cell_below t5 hul).trans (by assumption), (cell_below t5 hul).trans (by assumption), (cell_below t5 hul).trans (by assumption), (cell_below t5 hul).trans (by assumption)⟩))
          (first
            | (go_at_call 13; refine (val_any _ y.V.v).mono ?_; rintro e w4 ⟨rfl, t5⟩)
            | (go_at_call 12; refine (stk_store _ p mb σ (hSd.below t5) y.At y.Size y.V.v.av HFT.out).mono ?_; rintro e w5 ⟨rfl, hs5, t6⟩)
            | (go_at_call 19; refine (xtk_store _ x σ ((hXd.below t5).aside t6 AX.out.1 AX.out.2.1) y.At y.Size y.V.v HFT.out).mono ?_; rintro e w6 ⟨rfl, hx6, t7⟩))
        have H1 := hide (hs5.turned t7 (Ne.symm AX.out.1) (Ne.symm AX.out.2.1))
        have HX := hide hx6
        have B1 := hide (((below_on B1.out.drew t5).trans (t6.below (below_on B1.out.drew t5).size (fun k hk => by rcases hk with rfl | rfl; exact P1.out.1; exact P1.out.2))).trans (t7.below (Nat.le_trans (below_on B1.out.drew t5).size t6.size) (fun k hk => by rw [hk]; exact AX.out.2.2)))
        clear hs5 hx6 t5 t6 t7 hSd hXd
        clear q1 q2 q3 q4 q5 q6 q7 q8
        go_wp2_with fail
        exact ⟨⟨k + 1, _, by omega, by simp, H1.out, HX.out, B1.out⟩, by simp [intOf]; omega⟩
      · go_wp2_with fail
        clear e0 e1 e2 e3 e4 e5 e6 e7 e8
        rw [← HW0.out, ← HU.out]
        have q1 : W0.cell? ⟨u, 1, none⟩ = some (.int .i64 y.At) := HR.out 1 _ rfl
        have q2 : W0.cell? ⟨u, 2, none⟩ = some (.int .i64 y.Size) := HR.out 2 _ rfl
        have q3 : W0.cell? ⟨u, 3, none⟩ = some (.int .u8 y.V.Sort_) := HR.out 3 _ rfl
        have q4 : W0.cell? ⟨u, 4, none⟩ = some (.int .u64 y.V.N) := HR.out 4 _ rfl
        have q5 : W0.cell? ⟨u, 5, none⟩ = some (.int .i64 y.V.A) := HR.out 5 _ rfl
        have q6 : W0.cell? ⟨u, 6, none⟩ = some (.int .i64 y.V.B) := HR.out 6 _ rfl
        have q7 : W0.cell? ⟨u, 7, none⟩ = some (.int .i64 y.V.Off) := HR.out 7 _ rfl
        have q8 : W0.cell? ⟨u, 8, none⟩ = some (.int .u64 y.V.Gen) := HR.out 8 _ rfl
        have hSd : StkIs W0.drew p mb σ := H1.out.drew
        have hXd : XtkIs W0.drew x σ := HX.out.drew
        have hu1 : ¬ (u = p ∨ u = mb) := by have := UU.out; omega
        have hu2 : ¬ u = x := by have := UU.out; omega
        have hul : u < W0.drew.heap.size := Q2.out.lt
        go_region_held3 (fun w' => w'.cell? ⟨u, 1, none⟩ = some (.int .i64 y.At) ∧ w'.cell? ⟨u, 2, none⟩ = some (.int .i64 y.Size) ∧ w'.cell? ⟨u, 3, none⟩ = some (.int .u8 y.V.Sort_) ∧ w'.cell? ⟨u, 4, none⟩ = some (.int .u64 y.V.N) ∧ w'.cell? ⟨u, 5, none⟩ = some (.int .i64 y.V.A) ∧ w'.cell? ⟨u, 6, none⟩ = some (.int .i64 y.V.B) ∧ w'.cell? ⟨u, 7, none⟩ = some (.int .i64 y.V.Off) ∧ w'.cell? ⟨u, 8, none⟩ = some (.int .u64 y.V.Gen))
          (first
            | go_keep
            | (go_split_ands; exact ⟨t7.cell (by assumption) hu2, t7.cell (by assumption) hu2, t7.cell (by assumption) hu2, t7.cell (by assumption) hu2, t7.cell (by assumption) hu2, t7.cell (by assumption) hu2, t7.cell (by assumption) hu2, t7.cell (by assumption) hu2⟩)
            | (go_split_ands; exact ⟨t6.cell (by assumption) hu1, t6.cell (by assumption) hu1, t6.cell (by assumption) hu1, t6.cell (by assumption) hu1, t6.cell (by assumption) hu1, t6.cell (by assumption) hu1, t6.cell (by assumption) hu1, t6.cell (by assumption) hu1⟩)
            | (go_split_ands; exact ⟨(cell_below t5 hul).trans (by assumption), (cell_below t5 hul).trans (by assumption), (cell_below t5 hul).trans (by assumption), (cell_below t5 hul).trans (by assumption), (cell_below t5 hul).trans (by assumption), (cell_below t5 hul).trans (by assumption), (cell_below t5 hul).trans (by assumption), (cell_below t5 hul).trans (by assumption)⟩))
          (first
            | (go_at_call 13; refine (val_any _ y.V.v).mono ?_; rintro e w4 ⟨rfl, t5⟩)
            | (go_at_call 12; refine (stk_store _ p mb σ (hSd.below t5) y.At y.Size y.V.v.av HFT.out).mono ?_; rintro e w5 ⟨rfl, hs5, t6⟩)
            | (go_at_call 19; refine (xtk_store _ x σ ((hXd.below t5).aside t6 AX.out.1 AX.out.2.1) y.At y.Size y.V.v HFT.out).mono ?_; rintro e w6 ⟨rfl, hx6, t7⟩))
        have H1 := hide (hs5.turned t7 (Ne.symm AX.out.1) (Ne.symm AX.out.2.1))
        have HX := hide hx6
        have B1 := hide (((below_on B1.out.drew t5).trans (t6.below (below_on B1.out.drew t5).size (fun k hk => by rcases hk with rfl | rfl; exact P1.out.1; exact P1.out.2))).trans (t7.below (Nat.le_trans (below_on B1.out.drew t5).size t6.size) (fun k hk => by rw [hk]; exact AX.out.2.2)))
        clear hs5 hx6 t5 t6 t7 hSd hXd
        clear q1 q2 q3 q4 q5 q6 q7 q8
        go_wp2_with fail
        exact ⟨⟨k + 1, _, by omega, by simp, H1.out, HX.out, B1.out⟩, by simp [intOf]; omega⟩
      · go_wp2_with fail
        clear e0 e1 e2 e3 e4 e5 e6 e7 e8
        rw [← HW0.out, ← HU.out]
        have q1 : W0.cell? ⟨u, 1, none⟩ = some (.int .i64 y.At) := HR.out 1 _ rfl
        have q2 : W0.cell? ⟨u, 2, none⟩ = some (.int .i64 y.Size) := HR.out 2 _ rfl
        have q3 : W0.cell? ⟨u, 3, none⟩ = some (.int .u8 y.V.Sort_) := HR.out 3 _ rfl
        have q4 : W0.cell? ⟨u, 4, none⟩ = some (.int .u64 y.V.N) := HR.out 4 _ rfl
        have q5 : W0.cell? ⟨u, 5, none⟩ = some (.int .i64 y.V.A) := HR.out 5 _ rfl
        have q6 : W0.cell? ⟨u, 6, none⟩ = some (.int .i64 y.V.B) := HR.out 6 _ rfl
        have q7 : W0.cell? ⟨u, 7, none⟩ = some (.int .i64 y.V.Off) := HR.out 7 _ rfl
        have q8 : W0.cell? ⟨u, 8, none⟩ = some (.int .u64 y.V.Gen) := HR.out 8 _ rfl
        have hSd : StkIs W0.drew p mb σ := H1.out.drew
        have hXd : XtkIs W0.drew x σ := HX.out.drew
        have hu1 : ¬ (u = p ∨ u = mb) := by have := UU.out; omega
        have hu2 : ¬ u = x := by have := UU.out; omega
        have hul : u < W0.drew.heap.size := Q2.out.lt
        go_region_held3 (fun w' => w'.cell? ⟨u, 1, none⟩ = some (.int .i64 y.At) ∧ w'.cell? ⟨u, 2, none⟩ = some (.int .i64 y.Size) ∧ w'.cell? ⟨u, 3, none⟩ = some (.int .u8 y.V.Sort_) ∧ w'.cell? ⟨u, 4, none⟩ = some (.int .u64 y.V.N) ∧ w'.cell? ⟨u, 5, none⟩ = some (.int .i64 y.V.A) ∧ w'.cell? ⟨u, 6, none⟩ = some (.int .i64 y.V.B) ∧ w'.cell? ⟨u, 7, none⟩ = some (.int .i64 y.V.Off) ∧ w'.cell? ⟨u, 8, none⟩ = some (.int .u64 y.V.Gen))
          (first
            | go_keep
            | (go_split_ands; exact ⟨t7.cell (by assumption) hu2, t7.cell (by assumption) hu2, t7.cell (by assumption) hu2, t7.cell (by assumption) hu2, t7.cell (by assumption) hu2, t7.cell (by assumption) hu2, t7.cell (by assumption) hu2, t7.cell (by assumption) hu2⟩)
            | (go_split_ands; exact ⟨t6.cell (by assumption) hu1, t6.cell (by assumption) hu1, t6.cell (by assumption) hu1, t6.cell (by assumption) hu1, t6.cell (by assumption) hu1, t6.cell (by assumption) hu1, t6.cell (by assumption) hu1, t6.cell (by assumption) hu1⟩)
            | (go_split_ands; exact ⟨(cell_below t5 hul).trans (by assumption), (cell_below t5 hul).trans (by assumption), (cell_below t5 hul).trans (by assumption), (cell_below t5 hul).trans (by assumption), (cell_below t5 hul).trans (by assumption), (cell_below t5 hul).trans (by assumption), (cell_below t5 hul).trans (by assumption), (cell_below t5 hul).trans (by assumption)⟩))
          (first
            | (go_at_call 13; refine (val_any _ y.V.v).mono ?_; rintro e w4 ⟨rfl, t5⟩)
            | (go_at_call 12; refine (stk_store _ p mb σ (hSd.below t5) y.At y.Size y.V.v.av HFT.out).mono ?_; rintro e w5 ⟨rfl, hs5, t6⟩)
            | (go_at_call 19; refine (xtk_store _ x σ ((hXd.below t5).aside t6 AX.out.1 AX.out.2.1) y.At y.Size y.V.v HFT.out).mono ?_; rintro e w6 ⟨rfl, hx6, t7⟩))
        have H1 := hide (hs5.turned t7 (Ne.symm AX.out.1) (Ne.symm AX.out.2.1))
        have HX := hide hx6
        have B1 := hide (((below_on B1.out.drew t5).trans (t6.below (below_on B1.out.drew t5).size (fun k hk => by rcases hk with rfl | rfl; exact P1.out.1; exact P1.out.2))).trans (t7.below (Nat.le_trans (below_on B1.out.drew t5).size t6.size) (fun k hk => by rw [hk]; exact AX.out.2.2)))
        clear hs5 hx6 t5 t6 t7 hSd hXd
        clear q1 q2 q3 q4 q5 q6 q7 q8
        go_wp2_with fail
        exact ⟨⟨k + 1, _, by omega, by simp, H1.out, HX.out, B1.out⟩, by simp [intOf]; omega⟩
      · go_wp2_with fail
        clear e0 e1 e2 e3 e4 e5 e6 e7 e8
        rw [← HW0.out, ← HU.out]
        have q1a : W0.cell? ⟨u, 1, none⟩ = some (.int .i64 y.At) := HR.out 1 _ rfl
        have q1b : W0.cell? ⟨u, 2, none⟩ = some (.int .i64 y.Size) := HR.out 2 _ rfl
        have CL := fun W (h : StkIs W p mb σ) => stk_load W p mb σ h y.At y.Size
        have CX := fun W (h : XtkIs W x σ) => xtk_load W x σ h y.At y.Size
        generalize σ.load y.At y.Size = L at *
        obtain ⟨lv, lc⟩ := L
        have CI := fun W => val_law_is W lv lv.plain
        rw [show decide (lv.plain = lv.plain) = true from decide_eq_true rfl] at CI
        simp only [] at CL CX
        generalize lv.plain = pv at *
        obtain ⟨p0, p1, p2, p3, p4, p5⟩ := pv
        simp only [V22.agg] at CX CI
        generalize lv.enc = le at *
        have CL := hide CL
        have CX := hide CX
        have CI := hide CI
        go_wp2_with fail
        refine (CL.out _ H1.out).mono ?_
        rintro e wt ⟨rfl, hb⟩
        have H1 := hide (H1.out.below hb)
        have HX := hide (HX.out.below hb)
        have HR := hide (range_below HR.out hb)
        have B1 := hide (below_on B1.out hb)
        clear hb
        have q2a : wt.cell? ⟨u, 1, none⟩ = some (.int .i64 y.At) := HR.out 1 _ rfl
        have q2b : wt.cell? ⟨u, 2, none⟩ = some (.int .i64 y.Size) := HR.out 2 _ rfl
        go_wp2_with fail
        refine (CX.out _ HX.out).mono ?_
        rintro e wt ⟨rfl, hb⟩
        have H1 := hide (H1.out.below hb)
        have HX := hide (HX.out.below hb)
        have HR := hide (range_below HR.out hb)
        have B1 := hide (below_on B1.out hb)
        clear hb
        have BG := (Below.refl wt.heap.size wt).alloc (Nat.le_refl _) (.cells #[.int .u8 p0, .int .u64 p1, .int .i64 p2, .int .i64 p3, .int .i64 p4, .int .u64 p5] 25)
        have H1 := hide (H1.out.below BG)
        have HX := hide (HX.out.below BG)
        have B1 := hide (below_on B1.out BG)
        clear BG q1a q1b q2a q2b
        go_wp2_with fail
        refine (CI.out _).mono ?_
        rintro e wt ⟨rfl, hb⟩
        have H1 := hide (H1.out.below hb)
        have HX := hide (HX.out.below hb)
        have B1 := hide (below_on B1.out hb)
        clear hb
        go_wp2_with fail
        exact ⟨⟨k + 1, _, by omega, by simp, H1.out, HX.out, B1.out⟩, by simp [intOf]; omega⟩
      · go_wp2_with fail
        clear e0 e1 e2 e3 e4 e5 e6 e7 e8
        rw [← HW0.out, ← HU.out]
        have q1a : W0.cell? ⟨u, 1, none⟩ = some (.int .i64 y.At) := HR.out 1 _ rfl
        have q1b : W0.cell? ⟨u, 2, none⟩ = some (.int .i64 y.Size) := HR.out 2 _ rfl
        have CL := fun W (h : StkIs W p mb σ) => stk_load W p mb σ h y.At y.Size
        have CX := fun W (h : XtkIs W x σ) => xtk_load W x σ h y.At y.Size
        generalize σ.load y.At y.Size = L at *
        obtain ⟨lv, lc⟩ := L
        have CI := fun W => val_law_is W lv lv.plain
        rw [show decide (lv.plain = lv.plain) = true from decide_eq_true rfl] at CI
        simp only [] at CL CX
        generalize lv.plain = pv at *
        obtain ⟨p0, p1, p2, p3, p4, p5⟩ := pv
        simp only [V22.agg] at CX CI
        generalize lv.enc = le at *
        have CL := hide CL
        have CX := hide CX
        have CI := hide CI
        go_wp2_with fail
        refine (CL.out _ H1.out).mono ?_
        rintro e wt ⟨rfl, hb⟩
        have H1 := hide (H1.out.below hb)
        have HX := hide (HX.out.below hb)
        have HR := hide (range_below HR.out hb)
        have B1 := hide (below_on B1.out hb)
        clear hb
        have q2a : wt.cell? ⟨u, 1, none⟩ = some (.int .i64 y.At) := HR.out 1 _ rfl
        have q2b : wt.cell? ⟨u, 2, none⟩ = some (.int .i64 y.Size) := HR.out 2 _ rfl
        go_wp2_with fail
        refine (CX.out _ HX.out).mono ?_
        rintro e wt ⟨rfl, hb⟩
        have H1 := hide (H1.out.below hb)
        have HX := hide (HX.out.below hb)
        have HR := hide (range_below HR.out hb)
        have B1 := hide (below_on B1.out hb)
        clear hb
        have BG := (Below.refl wt.heap.size wt).alloc (Nat.le_refl _) (.cells #[.int .u8 p0, .int .u64 p1, .int .i64 p2, .int .i64 p3, .int .i64 p4, .int .u64 p5] 25)
        have H1 := hide (H1.out.below BG)
        have HX := hide (HX.out.below BG)
        have B1 := hide (below_on B1.out BG)
        clear BG q1a q1b q2a q2b
        go_wp2_with fail
        refine (CI.out _).mono ?_
        rintro e wt ⟨rfl, hb⟩
        have H1 := hide (H1.out.below hb)
        have HX := hide (HX.out.below hb)
        have B1 := hide (below_on B1.out hb)
        clear hb
        go_wp2_with fail
        exact ⟨⟨k + 1, _, by omega, by simp, H1.out, HX.out, B1.out⟩, by simp [intOf]; omega⟩
      · go_wp2_with fail
        clear e0 e1 e2 e3 e4 e5 e6 e7 e8
        rw [← HW0.out, ← HU.out]
        have q1a : W0.cell? ⟨u, 1, none⟩ = some (.int .i64 y.At) := HR.out 1 _ rfl
        have q1b : W0.cell? ⟨u, 2, none⟩ = some (.int .i64 y.Size) := HR.out 2 _ rfl
        have CL := fun W (h : StkIs W p mb σ) => stk_bytes W p mb σ h y.At y.Size
        have CX := fun W (h : XtkIs W x σ) => xtk_bytes W x σ h y.At y.Size
        generalize σ.bytesAt y.At y.Size = L at *
        obtain ⟨lt, lc⟩ := L
        simp only [] at CL CX
        have CL := hide CL
        have CX := hide CX
        go_wp2_with fail
        refine (CL.out _ H1.out).mono ?_
        rintro e wt ⟨rfl, hb⟩
        have H1 := hide (H1.out.below hb)
        have HX := hide (HX.out.below hb)
        have HR := hide (range_below HR.out hb)
        have B1 := hide (below_on B1.out hb)
        clear hb
        have q2a : wt.cell? ⟨u, 1, none⟩ = some (.int .i64 y.At) := HR.out 1 _ rfl
        have q2b : wt.cell? ⟨u, 2, none⟩ = some (.int .i64 y.Size) := HR.out 2 _ rfl
        go_wp2_with fail
        refine (CX.out _ HX.out).mono ?_
        rintro e wt ⟨rfl, hb⟩
        have H1 := hide (H1.out.below hb)
        have HX := hide (HX.out.below hb)
        have HR := hide (range_below HR.out hb)
        have B1 := hide (below_on B1.out hb)
        clear hb
        clear q1a q1b q2a q2b
        go_wp2_with fail
        exact ⟨⟨k + 1, _, by omega, by simp, H1.out, HX.out, B1.out⟩, by simp [intOf]; omega⟩
      · go_wp2_with fail
        clear e0 e1 e2 e3 e4 e5 e6 e7 e8
        rw [← HW0.out, ← HU.out]
        go_wp2_with fail
        refine (stk_copy _ _ _ _ H1.out).mono ?_
        rintro e wt ⟨r, md, rfl, hs, hrr, hmd, hb⟩
        have AQ := hide (show Apart4 p mb r md ∧ x ≠ r ∧ x ≠ md from by
          have h1 := H1.out.ltp
          have h2 := H1.out.ltm
          have h3 := HX.out.lt
          exact ⟨⟨by omega, by omega, by omega, by omega⟩, by omega, by omega⟩)
        have UR := hide (show u ≠ r ∧ u ≠ md from by
          have h3 : u < W0.heap.size := Q2.out.lt
          exact ⟨by omega, by omega⟩)
        have P3 := hide (And.intro (Nat.le_trans B1.out.size hrr) (Nat.le_trans B1.out.size hmd))
        have H1 := hide (H1.out.below hb)
        have HX := hide (HX.out.below hb)
        have HR := hide (range_below HR.out hb)
        have H3 := hide hs
        have B1 := hide (below_on B1.out hb)
        clear hb hs hrr hmd
        go_wp2_with fail
        refine (law_same _ _ _ _ _ H3.out HX.out).mono ?_
        rintro e wt ⟨rfl, hb⟩
        have H1 := hide (H1.out.below hb)
        have HX := hide (HX.out.below hb)
        have H3 := hide (H3.out.below hb)
        have HR := hide (range_below HR.out hb)
        have B1 := hide (below_on B1.out hb)
        clear hb
        have q4 : wt.cell? ⟨u, 4, none⟩ = some (.int .u64 y.V.N) := HR.out 4 _ rfl
        have S1 := fun W (h : StkIs W r md σ) => stk_store W r md σ h (-8) 8 (.num y.V.N) HVN.out
        have S2 := fun (τ : Stk) W (h : StkIs W r md τ) => stk_store W r md τ h (-16) 8 (.fn 0) trivial
        simp only [AV.enc] at S1 S2
        have S1 := hide S1
        have S2 := hide S2
        go_wp2_with fail
        refine (S1.out _ H3.out).mono ?_
        rintro e ws ⟨rfl, hs, ht⟩
        have H3 := hide hs
        have H1 := hide (H1.out.aside ht AQ.out.1)
        have HX := hide (HX.out.aside ht AQ.out.2.1 AQ.out.2.2)
        have B1 := hide (B1.out.trans (ht.below B1.out.size (fun k hk => by rcases hk with rfl | rfl; exact P3.out.1; exact P3.out.2)))
        clear hs ht q4
        go_wp2_with fail
        refine (S2.out _ _ H3.out).mono ?_
        rintro e ws ⟨rfl, hs, ht⟩
        have H1 := hide (H1.out.aside ht AQ.out.1)
        have HX := hide (HX.out.aside ht AQ.out.2.1 AQ.out.2.2)
        have B1 := hide (B1.out.trans (ht.below B1.out.size (fun k hk => by rcases hk with rfl | rfl; exact P3.out.1; exact P3.out.2)))
        clear hs ht
        go_wp2_with fail
        exact ⟨⟨k + 1, _, by omega, by simp, H1.out, HX.out, B1.out⟩, by simp [intOf]; omega⟩
    · have hdl : decide ((k : Int) < (N : Int)) = false := decide_eq_false (by omega)
      have H1 := hide hS
      have HX := hide hX
      have B1 := hide hB
      clear hS hX hB
      go_wp2_with fail
      refine (law_same _ _ _ _ _ H1.out HX.out).mono ?_
      rintro e wt ⟨rfl, hb⟩
      have H1 := hide (H1.out.below hb)
      have HX := hide (HX.out.below hb)
      have B1 := hide (below_on B1.out hb)
      clear hb
      go_wp2_with fail
      refine (stk_alive _).mono ?_
      rintro e wt ⟨rfl, hb⟩
      have B1 := hide (below_on B1.out hb)
      clear hb
      go_wp2_with fail
      go_ret
      exact ⟨rfl, B1.out⟩

end Go.Proofs.Ytcddpmiandgkjaa
