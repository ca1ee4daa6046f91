import Derived.Test.YtcddpmiandgkjaaAluOps
import Derived.StillTailTactics
import Derived.Test.YtcddpmiandgkjaaWordLaws
/-! alu.Does. -/
namespace Go.Proofs.Ytcddpmiandgkjaa
open Go.RowKit Go.Maps
set_option maxHeartbeats 8000000
set_option maxRecDepth 100000

theorem region_tail {P : Program} {id : Nat} {Q : Exit → Act → World → Prop} {a : Act} {w : World} {l : List Oper} (n : Nat) (hm : P.follows .mixedOrders = true) (hB : Region.lexTailB .any l.toArray n = true)
    (h : ∀ wd, wd = w.drew → wpStill P l.toArray wd (fun a' => wpList P l.toArray Q (l.drop n) a' wd) (l.take n) a) : (Code.region id l.toArray true).wp P Q a w :=
  wp_region_still_tail n hm hB (h _ rfl)

def u8Key (a : Int) : Value := .int .u8 a
def u8Ok (a : Int) : Prop := (Lit.int .u8 a).wf = true
theorem u8_mkey : MKey Try.prog 5 u8Key u8Ok :=
  MKey.of_keyed (int_keyed Try.underlying5) (fun {a b} h => by simpa [u8Key] using h) (fun a ha => ⟨_, keyOf_int_mk Try.underlying5 ha⟩)

/-- What is reckoned of two numbers of n bytes. -/
def aluOp (c n x y : Int) : Option Int :=
  if c = 0 then some (IntKind.u64.wrap (x + y)) else if c = 1 then some (IntKind.u64.wrap (x - y)) else if c = 2 then some (IntKind.u64.wrap (x * y)) else
  if c = 3 then some (if y = 0 then 0 else x / y) else if c = 4 then some (bits .or .u64 x y) else if c = 5 then some (bits .and .u64 x y) else
  if c = 6 then some (IntKind.u64.wrap (x * 2 ^ (y % (8 * n)).toNat)) else if c = 7 then some (x / 2 ^ (y % (8 * n)).toNat) else if c = 8 then some (IntKind.u64.wrap (-x)) else
  if c = 9 then some (if y = 0 then x else x % y) else if c = 10 then some (bits .xor .u64 x y) else if c = 11 then some y else
  if c = 12 then some (IntKind.u64.wrap (wordSign x n / 2 ^ (y % (8 * n)).toNat)) else none

def aluSize (wide : Bool) : Int := if wide then 8 else 4

/-- What alu.Does answers. -/
def aluDoes (c : Int) (wide : Bool) (a b : Int) : Int × Int :=
  match aluOp c (aluSize wide) (wordLow a (aluSize wide)) (wordLow b (aluSize wide)) with
  | some r => (wordLow r (aluSize wide), 0)
  | none => (0, 20)

def DoesPost (w : World) (r q : Int) (e : Ending) (w' : World) : Prop := e = .returned (.tuple #[.int .u64 r, .int .i64 q]) ∧ Below w.heap.size w w'

theorem bits_range (o : BinOp) (x y : Int) : 0 ≤ bits o .u64 x y ∧ bits o .u64 x y < 18446744073709551616 := by
  have h : ∀ z, 0 ≤ IntKind.u64.wrap z ∧ IntKind.u64.wrap z < 18446744073709551616 := fun z => by
    show 0 ≤ z % 18446744073709551616 ∧ z % 18446744073709551616 < 18446744073709551616
    omega
  exact h _

theorem alu_over (w : World) (a b : Int) (a0 : 0 ≤ a) (a1 : a < 18446744073709551616) (b0 : 0 ≤ b) : Calls Try.prog 69 #[.int .u64 a, .int .u64 b] w fun e w' => e = .returned (.tuple #[.int .u64 (if b = 0 then 0 else a / b), .int .u64 (if b = 0 then a else a % b)]) ∧ ∃ k, w' = w.drewN k := by
  by_cases h : b = 0
  · subst h
    go_enter Try.func69, Try.ntmps69
    go_wp2
    go_ret2
    exact ⟨rfl, 0, rfl⟩
  · have hd : (b == 0) = false := by simpa using h
    rw [if_neg h, if_neg h]
    have ht : IntKind.u64.wrap (a.tdiv b) = a / b := by
      rw [Int.tdiv_eq_ediv_of_nonneg a0]
      have h1 := Int.ediv_nonneg a0 b0
      have h2 : a / b ≤ a := Int.ediv_le_self _ a0
      exact wrap_u64 h1 (by omega)
    go_enter Try.func69, Try.ntmps69
    go_wp2
    go_quiet (fail)
    go_wp2
    go_ret2
    exact ⟨rfl, _, rfl⟩

theorem alu_does (w : World) (c a b : Int) (wide : Bool) (a0 : 0 ≤ a) (a1 : a < 18446744073709551616) (b0 : 0 ≤ b) (b1 : b < 18446744073709551616) (hc : u8Ok c) :
    Calls Try.prog 64 #[.int .u8 c, .bool wide, .int .u64 a, .int .u64 b] w (DoesPost w (aluDoes c wide a b).1 (aluDoes c wide a b).2) := by
  obtain ⟨n, hn, hn2⟩ : ∃ n : Int, (if wide then (8 : Int) else 4) = n ∧ (n = 4 ∨ n = 8) := by
    cases wide
    · exact ⟨4, rfl, Or.inl rfl⟩
    · exact ⟨8, rfl, Or.inr rfl⟩
  have hsz : ∀ w, Calls Try.prog 67 #[.bool wide] w fun e w' => e = .returned (.int .i64 n) ∧ w = w' := fun w => by rw [← hn]; exact alu_size w wide
  have HS := hide hsz
  have HN := hide hn
  have hn4 : 4 ≤ n := by omega
  have hn8 : n ≤ 8 := by omega
  clear hsz hn hn2
  obtain ⟨x, hx⟩ : ∃ x, x = wordLow a n := ⟨_, rfl⟩
  obtain ⟨y, hy⟩ : ∃ x, x = wordLow b n := ⟨_, rfl⟩
  have hxr := low_range a n a0
  have hyr := low_range b n b0
  rw [← hx] at hxr
  rw [← hy] at hyr
  have CL : ∀ w, Calls Try.prog 68 #[.int .u64 a, .int .i64 n] w fun e w' => e = .returned (.int .u64 x) ∧ w' = w := fun w => by rw [hx]; exact (word_low a n a0 a1 w).mono fun _ _ ⟨h, e⟩ => ⟨h, e.symm⟩
  have CM : ∀ w, Calls Try.prog 68 #[.int .u64 b, .int .i64 n] w fun e w' => e = .returned (.int .u64 y) ∧ w' = w := fun w => by rw [hy]; exact (word_low b n b0 b1 w).mono fun _ _ ⟨h, e⟩ => ⟨h, e.symm⟩
  have HCL := hide CL
  have HCM := hide CM
  have HX := hide hx
  have HY := hide hy
  clear CL CM hx hy
  obtain ⟨x0, x1⟩ := hxr
  obtain ⟨y0, y1⟩ := hyr
  have x2 : x < 18446744073709551616 := by omega
  have y2 : y < 18446744073709551616 := by omega
  clear x1 y1
  go_enter Try.func64, Try.ntmps64
  go_wp2_with fail
  refine (HS.out _).mono ?_
  rintro e w2 ⟨rfl, rfl⟩
  go_wp2_with fail
  refine region_tail 6 (by kernel_rfl) (by kernel_rfl) ?_
  intro wd hwd
  have d0 : Has wd w.heap.size 23 #[.int .u64 a] := by
    rw [hwd]
    exact ((Has.new w _ _).alloc _).alloc _
  have d1 : Has wd (w.heap.size + 1) 23 #[.int .u64 b] := by
    rw [hwd]
    have := (Has.new (w.alloc (.cells #[.int .u64 a] 23)) 23 #[.int .u64 b]).alloc (.cells #[.int .i64 n] 3)
    rw [World.size_alloc] at this
    exact this
  have d2 : Has wd (w.heap.size + 1 + 1) 3 #[.int .i64 n] := by
    rw [hwd]
    have := Has.new ((w.alloc (.cells #[.int .u64 a] 23)).alloc (.cells #[.int .u64 b] 23)) 3 #[.int .i64 n]
    rw [World.size_alloc, World.size_alloc] at this
    exact this
  have hB : Below w.heap.size w wd := by
    rw [hwd]
    exact ((((Below.refl _ _).alloc (Nat.le_refl _) _).alloc (by simp) _).alloc (by simp; omega) _).drew
  obtain ⟨q, hq⟩ : ∃ q, w.heap.size = q := ⟨_, rfl⟩
  rw [hq] at d0 d1 d2
  rw [hq]
  have c0 := d0.cell 0
  have c1 := d1.cell 0
  have c2 := d2.cell 0
  have f0 := d0.free 0
  have f1 := d1.free 0
  simp at c0 c1 c2
  have q0 : q < wd.heap.size := d0.lt
  have q1 : q + 1 < wd.heap.size := d1.lt
  have q2 : q + 1 + 1 < wd.heap.size := d2.lt
  have D0 := hide d0
  have D1 := hide d1
  have D2 := hide d2
  have HB := hide hB
  have HQ := hide hq
  clear hwd d0 d1 d2 hB hq
  simp only [List.take_succ_cons, List.take_zero, List.drop_succ_cons, List.drop_zero]
  iterate 2 still_step
  still_call (HCL.out _)
  iterate 2 still_step
  still_call (HCM.out _)
  refine wpStill_nil ?_
  go_wp2_with fail
  obtain ⟨qu, hqu⟩ : ∃ z : Int, (if y = 0 then 0 else x / y) = z := ⟨_, rfl⟩
  obtain ⟨re, hre⟩ : ∃ z : Int, (if y = 0 then x else x % y) = z := ⟨_, rfl⟩
  have CO : ∀ w, Calls Try.prog 69 #[.int .u64 x, .int .u64 y] w fun e w' => e = .returned (.tuple #[.int .u64 qu, .int .u64 re]) ∧ ∃ k, w' = w.drewN k := fun w => by
    rw [← hqu, ← hre]
    exact alu_over w x y x0 x2 y0
  have HCO := hide CO
  have HQU := hide hqu
  have HRE := hide hre
  clear CO hqu hre
  refine (HCO.out _).mono ?_
  rintro e w3 ⟨rfl, k, rfl⟩
  go_wp2_with fail
  obtain ⟨W0, hW0, E0, E1, E2, E3, E4, E5, EB⟩ : ∃ W0, ((((((wd.setCell ⟨q, 0, none⟩ (.int .u64 x)).setCell ⟨q + 1, 0, none⟩ (.int .u64 y)).alloc (.cells #[.int .u64 (y % (8 * n))] 23)).drewN k).alloc (.cells #[.int .u64 qu] 23)).alloc (.cells #[.int .u64 re] 23)) = W0 ∧ Has W0 q 23 #[.int .u64 x] ∧ Has W0 (q + 1) 23 #[.int .u64 y] ∧ Has W0 (q + 1 + 1) 3 #[.int .i64 n] ∧
      Has W0 wd.heap.size 23 #[.int .u64 (y % (8 * n))] ∧ Has W0 (wd.heap.size + 1) 23 #[.int .u64 qu] ∧ Has W0 (wd.heap.size + 1 + 1) 23 #[.int .u64 re] ∧ Below w.heap.size w W0 := by
    have g0 : Has ((wd.setCell ⟨q, 0, none⟩ (.int .u64 x)).setCell ⟨q + 1, 0, none⟩ (.int .u64 y)) q 23 #[.int .u64 x] := (D0.out.set 0 (.int .u64 x)).far (by simp) _
    have g1 : Has ((wd.setCell ⟨q, 0, none⟩ (.int .u64 x)).setCell ⟨q + 1, 0, none⟩ (.int .u64 y)) (q + 1) 23 #[.int .u64 y] := (D1.out.far (p := ⟨q, 0, none⟩) (by simp) (.int .u64 x)).set 0 _
    have g2 : Has ((wd.setCell ⟨q, 0, none⟩ (.int .u64 x)).setCell ⟨q + 1, 0, none⟩ (.int .u64 y)) (q + 1 + 1) 3 #[.int .i64 n] := (D2.out.far (p := ⟨q, 0, none⟩) (by simp; omega) (.int .u64 x)).far (by simp) _
    have gB : Below w.heap.size w ((wd.setCell ⟨q, 0, none⟩ (.int .u64 x)).setCell ⟨q + 1, 0, none⟩ (.int .u64 y)) := (HB.out.setCell (p := ⟨q, 0, none⟩) (by rw [HQ.out]; exact Nat.le_refl _) _).setCell (p := ⟨q + 1, 0, none⟩) (by rw [HQ.out]; exact Nat.le_succ _) _
    have gs : ((wd.setCell ⟨q, 0, none⟩ (.int .u64 x)).setCell ⟨q + 1, 0, none⟩ (.int .u64 y)).heap.size = wd.heap.size := by rw [size_set, size_set]
    generalize (wd.setCell ⟨q, 0, none⟩ (.int .u64 x)).setCell ⟨q + 1, 0, none⟩ (.int .u64 y) = v at *
    refine ⟨_, rfl, (((g0.alloc _).drewN k).alloc _).alloc _, (((g1.alloc _).drewN k).alloc _).alloc _, (((g2.alloc _).drewN k).alloc _).alloc _, ?_, ?_, ?_, ?_⟩
    · rw [← gs]
      exact (((Has.new v _ _).drewN k).alloc _).alloc _
    · have h := (Has.new ((v.alloc (.cells #[.int .u64 (y % (8 * n))] 23)).drewN k) 23 #[.int .u64 qu]).alloc (.cells #[.int .u64 re] 23)
      have hz : ((v.alloc (.cells #[.int .u64 (y % (8 * n))] 23)).drewN k).heap.size = wd.heap.size + 1 := by
        rw [← gs]
        exact World.size_alloc _ _
      rw [hz] at h
      exact h
    · have h := Has.new (((v.alloc (.cells #[.int .u64 (y % (8 * n))] 23)).drewN k).alloc (.cells #[.int .u64 qu] 23)) 23 #[.int .u64 re]
      have hz : (((v.alloc (.cells #[.int .u64 (y % (8 * n))] 23)).drewN k).alloc (.cells #[.int .u64 qu] 23)).heap.size = wd.heap.size + 1 + 1 := by
        rw [World.size_alloc, ← gs]
        exact congrArg (· + 1) (World.size_alloc _ _)
      rw [hz] at h
      exact h
    · have l1 := gB.size
      exact ((Below.drewN_ (gB.alloc l1 _) k).alloc (by show _ ≤ (v.alloc _).heap.size; rw [World.size_alloc]; omega) _).alloc (by rw [World.size_alloc]; show _ ≤ (v.alloc _).heap.size + 1; rw [World.size_alloc]; omega) _
  obtain ⟨s, hs⟩ : ∃ s, wd.heap.size = s := ⟨_, rfl⟩
  rw [hW0]
  rw [hs] at E3 E4 E5 q0 q1 q2
  rw [hs]
  clear hW0 hs HB HQ D0 D1 D2 c0 c1 c2 f0 f1
  obtain ⟨sh, hsh, sh0, sh1⟩ : ∃ sh, y % (8 * n) = sh ∧ 0 ≤ sh ∧ sh < 64 := ⟨_, rfl, Int.emod_nonneg _ (by omega), Int.lt_of_lt_of_le (Int.emod_lt_of_pos _ (by omega)) (by omega)⟩
  rw [hsh] at E3
  rw [hsh]
  have HSH := hide hsh
  clear hsh
  rw [run_makeMap]
  have M0 : MapIs (W0.alloc (.map #[] 0)) W0.heap.size u8Key u8Ok [] := MapIs.made W0 u8Key u8Ok
  have T0 : Turned (fun j => j = W0.heap.size) W0 (W0.alloc (.map #[] 0)) := (Turned.refl _ _).alloc _
  have HT0 := hide T0
  have HM0 := hide M0
  clear T0 M0
  obtain ⟨mb, hmb⟩ : ∃ mb, W0.heap.size = mb := ⟨_, rfl⟩
  rw [hmb] at HT0 HM0
  rw [hmb]
  have HMB := hide hmb
  have N0 : ¬ (q = mb) := by have := E0.lt; omega
  have N1 : ¬ (q + 1 = mb) := by have := E1.lt; omega
  have N2 : ¬ (q + 1 + 1 = mb) := by have := E2.lt; omega
  have N3 : ¬ (s = mb) := by have := E3.lt; omega
  have N4 : ¬ (s + 1 = mb) := by have := E4.lt; omega
  have N5 : ¬ (s + 1 + 1 = mb) := by have := E5.lt; omega
  have EE := hide (And.intro E0 (And.intro E1 (And.intro E2 (And.intro E3 (And.intro E4 (And.intro E5 EB))))))
  have NN := hide (And.intro N0 (And.intro N1 (And.intro N2 (And.intro N3 (And.intro N4 N5)))))
  clear E0 E1 E2 E3 E4 E5 EB N0 N1 N2 N3 N4 N5 hmb q0 q1 q2
  obtain ⟨V0, hV0⟩ : ∃ V0, W0.alloc (.map #[] 0) = V0 := ⟨_, rfl⟩
  rw [hV0] at HM0 HT0
  rw [hV0]
  clear hV0
  go_wp2_with fail
  obtain ⟨V1, h1, m1, t1⟩ := run_put u8_mkey Try.underlying124 HM0.out (a := 0) (by unfold u8Ok; decide) (.func (.func 70) #[] #[.pointer (some ⟨q, 0, none⟩), .pointer (some ⟨q + 1, 0, none⟩)])
  replace h1 : (Instr.mapUpdate 124 (.map (some mb)) (.int .u8 0) (.func (.func 70) #[] #[.pointer (some ⟨q, 0, none⟩), .pointer (some ⟨q + 1, 0, none⟩)])).run Try.prog V0 = .ok () V1 := h1
  rw [h1]
  have HM1 := hide m1
  have HT1 := hide (HT0.out.trans t1)
  clear h1 m1 t1 HM0 HT0
  go_wp2_with fail
  obtain ⟨V2, h2, m2, t2⟩ := run_put u8_mkey Try.underlying124 HM1.out (a := 1) (by unfold u8Ok; decide) (.func (.func 71) #[] #[.pointer (some ⟨q, 0, none⟩), .pointer (some ⟨q + 1, 0, none⟩)])
  replace h2 : (Instr.mapUpdate 124 (.map (some mb)) (.int .u8 1) (.func (.func 71) #[] #[.pointer (some ⟨q, 0, none⟩), .pointer (some ⟨q + 1, 0, none⟩)])).run Try.prog V1 = .ok () V2 := h2
  rw [h2]
  have HM2 := hide m2
  have HT2 := hide (HT1.out.trans t2)
  clear h2 m2 t2 HM1 HT1
  go_wp2_with fail
  obtain ⟨V3, h3, m3, t3⟩ := run_put u8_mkey Try.underlying124 HM2.out (a := 2) (by unfold u8Ok; decide) (.func (.func 72) #[] #[.pointer (some ⟨q, 0, none⟩), .pointer (some ⟨q + 1, 0, none⟩)])
  replace h3 : (Instr.mapUpdate 124 (.map (some mb)) (.int .u8 2) (.func (.func 72) #[] #[.pointer (some ⟨q, 0, none⟩), .pointer (some ⟨q + 1, 0, none⟩)])).run Try.prog V2 = .ok () V3 := h3
  rw [h3]
  have HM3 := hide m3
  have HT3 := hide (HT2.out.trans t3)
  clear h3 m3 t3 HM2 HT2
  go_wp2_with fail
  obtain ⟨V4, h4, m4, t4⟩ := run_put u8_mkey Try.underlying124 HM3.out (a := 3) (by unfold u8Ok; decide) (.func (.func 73) #[] #[.pointer (some ⟨s + 1, 0, none⟩)])
  replace h4 : (Instr.mapUpdate 124 (.map (some mb)) (.int .u8 3) (.func (.func 73) #[] #[.pointer (some ⟨s + 1, 0, none⟩)])).run Try.prog V3 = .ok () V4 := h4
  rw [h4]
  have HM4 := hide m4
  have HT4 := hide (HT3.out.trans t4)
  clear h4 m4 t4 HM3 HT3
  go_wp2_with fail
  obtain ⟨V5, h5, m5, t5⟩ := run_put u8_mkey Try.underlying124 HM4.out (a := 9) (by unfold u8Ok; decide) (.func (.func 74) #[] #[.pointer (some ⟨s + 1 + 1, 0, none⟩)])
  replace h5 : (Instr.mapUpdate 124 (.map (some mb)) (.int .u8 9) (.func (.func 74) #[] #[.pointer (some ⟨s + 1 + 1, 0, none⟩)])).run Try.prog V4 = .ok () V5 := h5
  rw [h5]
  have HM5 := hide m5
  have HT5 := hide (HT4.out.trans t5)
  clear h5 m5 t5 HM4 HT4
  go_wp2_with fail
  obtain ⟨V6, h6, m6, t6⟩ := run_put u8_mkey Try.underlying124 HM5.out (a := 4) (by unfold u8Ok; decide) (.func (.func 75) #[] #[.pointer (some ⟨q, 0, none⟩), .pointer (some ⟨q + 1, 0, none⟩)])
  replace h6 : (Instr.mapUpdate 124 (.map (some mb)) (.int .u8 4) (.func (.func 75) #[] #[.pointer (some ⟨q, 0, none⟩), .pointer (some ⟨q + 1, 0, none⟩)])).run Try.prog V5 = .ok () V6 := h6
  rw [h6]
  have HM6 := hide m6
  have HT6 := hide (HT5.out.trans t6)
  clear h6 m6 t6 HM5 HT5
  go_wp2_with fail
  obtain ⟨V7, h7, m7, t7⟩ := run_put u8_mkey Try.underlying124 HM6.out (a := 5) (by unfold u8Ok; decide) (.func (.func 76) #[] #[.pointer (some ⟨q, 0, none⟩), .pointer (some ⟨q + 1, 0, none⟩)])
  replace h7 : (Instr.mapUpdate 124 (.map (some mb)) (.int .u8 5) (.func (.func 76) #[] #[.pointer (some ⟨q, 0, none⟩), .pointer (some ⟨q + 1, 0, none⟩)])).run Try.prog V6 = .ok () V7 := h7
  rw [h7]
  have HM7 := hide m7
  have HT7 := hide (HT6.out.trans t7)
  clear h7 m7 t7 HM6 HT6
  go_wp2_with fail
  obtain ⟨V8, h8, m8, t8⟩ := run_put u8_mkey Try.underlying124 HM7.out (a := 10) (by unfold u8Ok; decide) (.func (.func 77) #[] #[.pointer (some ⟨q, 0, none⟩), .pointer (some ⟨q + 1, 0, none⟩)])
  replace h8 : (Instr.mapUpdate 124 (.map (some mb)) (.int .u8 10) (.func (.func 77) #[] #[.pointer (some ⟨q, 0, none⟩), .pointer (some ⟨q + 1, 0, none⟩)])).run Try.prog V7 = .ok () V8 := h8
  rw [h8]
  have HM8 := hide m8
  have HT8 := hide (HT7.out.trans t8)
  clear h8 m8 t8 HM7 HT7
  go_wp2_with fail
  obtain ⟨V9, h9, m9, t9⟩ := run_put u8_mkey Try.underlying124 HM8.out (a := 6) (by unfold u8Ok; decide) (.func (.func 78) #[] #[.pointer (some ⟨q, 0, none⟩), .pointer (some ⟨s, 0, none⟩)])
  replace h9 : (Instr.mapUpdate 124 (.map (some mb)) (.int .u8 6) (.func (.func 78) #[] #[.pointer (some ⟨q, 0, none⟩), .pointer (some ⟨s, 0, none⟩)])).run Try.prog V8 = .ok () V9 := h9
  rw [h9]
  have HM9 := hide m9
  have HT9 := hide (HT8.out.trans t9)
  clear h9 m9 t9 HM8 HT8
  go_wp2_with fail
  obtain ⟨V10, h10, m10, t10⟩ := run_put u8_mkey Try.underlying124 HM9.out (a := 7) (by unfold u8Ok; decide) (.func (.func 79) #[] #[.pointer (some ⟨q, 0, none⟩), .pointer (some ⟨s, 0, none⟩)])
  replace h10 : (Instr.mapUpdate 124 (.map (some mb)) (.int .u8 7) (.func (.func 79) #[] #[.pointer (some ⟨q, 0, none⟩), .pointer (some ⟨s, 0, none⟩)])).run Try.prog V9 = .ok () V10 := h10
  rw [h10]
  have HM10 := hide m10
  have HT10 := hide (HT9.out.trans t10)
  clear h10 m10 t10 HM9 HT9
  go_wp2_with fail
  obtain ⟨V11, h11, m11, t11⟩ := run_put u8_mkey Try.underlying124 HM10.out (a := 12) (by unfold u8Ok; decide) (.func (.func 80) #[] #[.pointer (some ⟨q, 0, none⟩), .pointer (some ⟨q + 1 + 1, 0, none⟩), .pointer (some ⟨s, 0, none⟩)])
  replace h11 : (Instr.mapUpdate 124 (.map (some mb)) (.int .u8 12) (.func (.func 80) #[] #[.pointer (some ⟨q, 0, none⟩), .pointer (some ⟨q + 1 + 1, 0, none⟩), .pointer (some ⟨s, 0, none⟩)])).run Try.prog V10 = .ok () V11 := h11
  rw [h11]
  have HM11 := hide m11
  have HT11 := hide (HT10.out.trans t11)
  clear h11 m11 t11 HM10 HT10
  go_wp2_with fail
  obtain ⟨V12, h12, m12, t12⟩ := run_put u8_mkey Try.underlying124 HM11.out (a := 8) (by unfold u8Ok; decide) (.func (.func 82) #[] #[.pointer (some ⟨q, 0, none⟩)])
  replace h12 : (Instr.mapUpdate 124 (.map (some mb)) (.int .u8 8) (.func (.func 82) #[] #[.pointer (some ⟨q, 0, none⟩)])).run Try.prog V11 = .ok () V12 := h12
  rw [h12]
  have HM12 := hide m12
  have HT12 := hide (HT11.out.trans t12)
  clear h12 m12 t12 HM11 HT11
  go_wp2_with fail
  obtain ⟨V13, h13, m13, t13⟩ := run_put u8_mkey Try.underlying124 HM12.out (a := 11) (by unfold u8Ok; decide) (.func (.func 83) #[] #[.pointer (some ⟨q + 1, 0, none⟩)])
  replace h13 : (Instr.mapUpdate 124 (.map (some mb)) (.int .u8 11) (.func (.func 83) #[] #[.pointer (some ⟨q + 1, 0, none⟩)])).run Try.prog V12 = .ok () V13 := h13
  rw [h13]
  have HM13 := hide m13
  have HT13 := hide (HT12.out.trans t13)
  clear h13 m13 t13 HM12 HT12
  have hz : (zeroValue 122).run Try.prog V13 = .ok (.nilFunc) V13 := by kernel_rfl
  have hlook := run_get u8_mkey Try.underlying124 hz HM13.out hc true
  have K0 : V13.cell? ⟨q, 0, none⟩ = some (.int .u64 x) := (EE.out.1.turned HT13.out NN.out.1).cell 0
  have K1 : V13.cell? ⟨q + 1, 0, none⟩ = some (.int .u64 y) := (EE.out.2.1.turned HT13.out NN.out.2.1).cell 0
  have K2 : V13.cell? ⟨q + 1 + 1, 0, none⟩ = some (.int .i64 n) := (EE.out.2.2.1.turned HT13.out NN.out.2.2.1).cell 0
  have K3 : V13.cell? ⟨s, 0, none⟩ = some (.int .u64 sh) := (EE.out.2.2.2.1.turned HT13.out NN.out.2.2.2.1).cell 0
  have K4 : V13.cell? ⟨s + 1, 0, none⟩ = some (.int .u64 qu) := (EE.out.2.2.2.2.1.turned HT13.out NN.out.2.2.2.2.1).cell 0
  have K5 : V13.cell? ⟨s + 1 + 1, 0, none⟩ = some (.int .u64 re) := (EE.out.2.2.2.2.2.1.turned HT13.out NN.out.2.2.2.2.2).cell 0
  have B13 : Below w.heap.size w V13 := EE.out.2.2.2.2.2.2.trans (HT13.out.below EE.out.2.2.2.2.2.2.size (by rintro j rfl; rw [← HMB.out]; exact EE.out.2.2.2.2.2.2.size))
  have qr : 0 ≤ qu ∧ qu < 18446744073709551616 := by
    rw [← HQU.out]
    split
    · omega
    · have h1 := Int.ediv_nonneg x0 y0
      have h2 : x / y ≤ x := Int.ediv_le_self _ x0
      omega
  have rr : 0 ≤ re ∧ re < 18446744073709551616 := by
    rw [← HRE.out]
    split
    · omega
    · rename_i hy0
      have h1 := Int.emod_nonneg x hy0
      have h2 := Int.emod_lt_of_pos x (show 0 < y by omega)
      omega
  have dr : 0 ≤ x / 2 ^ sh.toNat ∧ x / 2 ^ sh.toNat < 18446744073709551616 := by
    have h1 : 0 ≤ x / 2 ^ sh.toNat := Int.ediv_nonneg x0 (Int.pow_nonneg (by omega))
    have h2 : x / 2 ^ sh.toNat ≤ x := Int.ediv_le_self _ x0
    omega
  have wr : ∀ z, 0 ≤ IntKind.u64.wrap z ∧ IntKind.u64.wrap z < 18446744073709551616 := fun z => by
    show 0 ≤ z % 18446744073709551616 ∧ z % 18446744073709551616 < 18446744073709551616
    omega
  have spec : ∀ r, aluOp c n x y = some r → aluDoes c wide a b = (wordLow r n, 0) := fun r hr => by
    unfold aluDoes aluSize
    rw [HN.out, ← HX.out, ← HY.out, hr]
  have specn : aluOp c n x y = none → aluDoes c wide a b = (0, 20) := fun hr => by
    unfold aluDoes aluSize
    rw [HN.out, ← HX.out, ← HY.out, hr]
  have RG := hide (And.intro qr (And.intro rr (And.intro dr wr)))
  have SP := hide spec
  have SN := hide specn
  have HL := hide hlook
  have HB13 := hide B13
  clear hz hlook qr rr dr wr spec specn B13 HM13 HT13 EE HX HY HCL HCM HS HCO
  by_cases hin : 13 ≤ c
  · have hlook : (Instr.lookup 124 (.map (some mb)) (.int .u8 c) true).run Try.prog V13 = .ok (.tuple #[.nilFunc, .bool false]) V13 := by
      refine HL.out.trans ?_
      rw [mget_none]
      · rfl
      · intro p hp
        have hp : p.1 ∈ [(0 : Int), 1, 2, 3, 9, 4, 5, 10, 6, 7, 12, 8, 11] := List.mem_map_of_mem (f := Prod.fst) hp
        simp at hp
        omega
    have e : aluDoes c wide a b = (0, 20) := SN.out (by unfold aluOp; simp (disch := omega) only [if_neg])
    have HE := hide e
    clear e
    go_wp2_with fail
    go_ret2
    refine ⟨?_, HB13.out⟩
    rw [HE.out]
    rfl
  · have hcs : c = 0 ∨ c = 1 ∨ c = 2 ∨ c = 3 ∨ c = 4 ∨ c = 5 ∨ c = 6 ∨ c = 7 ∨ c = 8 ∨ c = 9 ∨ c = 10 ∨ c = 11 ∨ c = 12 := by
      have := wf_u8 hc
      omega
    rcases hcs with rfl | rfl | rfl | rfl | rfl | rfl | rfl | rfl | rfl | rfl | rfl | rfl | rfl
    · have hlook : (Instr.lookup 124 (.map (some mb)) (.int .u8 0) true).run Try.prog V13 = .ok (.tuple #[.func (.func 70) #[] #[.pointer (some ⟨q, 0, none⟩), .pointer (some ⟨q + 1, 0, none⟩)], .bool true]) V13 := HL.out
      have hR : 0 ≤ IntKind.u64.wrap (x + y) ∧ IntKind.u64.wrap (x + y) < 18446744073709551616 := (RG.out.2.2.2 _)
      have e : aluDoes 0 wide a b = (wordLow (IntKind.u64.wrap (x + y)) n, 0) := SP.out _ (by simp [aluOp])
      have CC := hide (fun (w : World) => word_low (IntKind.u64.wrap (x + y)) n hR.1 hR.2 w)
      have CD : ∀ W, (∀ p, W.cell? p = V13.cell? p) → Calls Try.prog 70 #[.pointer (some ⟨q, 0, none⟩), .pointer (some ⟨q + 1, 0, none⟩)] W fun e w' => e = .returned (.int .u64 (IntKind.u64.wrap (x + y))) ∧ ∃ k, w' = W.drewN k := fun W hW => by
        rw [← hW] at K0 K1 K2 K3 K4 K5
        exact (alu_do_1 _ q (q + 1) x y K0 K1).mono fun e w' h => ⟨h.1, 0, h.2.symm⟩
      have CD2 := hide CD
      obtain ⟨R, hRR⟩ : ∃ R : Int, IntKind.u64.wrap (x + y) = R := ⟨_, rfl⟩
      rw [hRR] at CC CD2 e
      have HE := hide e
      clear e hR CD hRR K0 K1 K3 K4 K5 RG SP SN HL
      go_wp2_with fail
      go_quiet (first | (go_at_call 68; exact quiet_left (CC.out _)) | (go_at_call 70; exact Calls.quiet_of (CD2.out _ (fun p => rfl))))
      go_wp2_with fail
      go_ret2
      refine ⟨?_, Below.drewN_ HB13.out _⟩
      rw [HE.out]
      rfl
    · have hlook : (Instr.lookup 124 (.map (some mb)) (.int .u8 1) true).run Try.prog V13 = .ok (.tuple #[.func (.func 71) #[] #[.pointer (some ⟨q, 0, none⟩), .pointer (some ⟨q + 1, 0, none⟩)], .bool true]) V13 := HL.out
      have hR : 0 ≤ IntKind.u64.wrap (x - y) ∧ IntKind.u64.wrap (x - y) < 18446744073709551616 := (RG.out.2.2.2 _)
      have e : aluDoes 1 wide a b = (wordLow (IntKind.u64.wrap (x - y)) n, 0) := SP.out _ (by simp [aluOp])
      have CC := hide (fun (w : World) => word_low (IntKind.u64.wrap (x - y)) n hR.1 hR.2 w)
      have CD : ∀ W, (∀ p, W.cell? p = V13.cell? p) → Calls Try.prog 71 #[.pointer (some ⟨q, 0, none⟩), .pointer (some ⟨q + 1, 0, none⟩)] W fun e w' => e = .returned (.int .u64 (IntKind.u64.wrap (x - y))) ∧ ∃ k, w' = W.drewN k := fun W hW => by
        rw [← hW] at K0 K1 K2 K3 K4 K5
        exact (alu_do_2 _ q (q + 1) x y K0 K1).mono fun e w' h => ⟨h.1, 0, h.2.symm⟩
      have CD2 := hide CD
      obtain ⟨R, hRR⟩ : ∃ R : Int, IntKind.u64.wrap (x - y) = R := ⟨_, rfl⟩
      rw [hRR] at CC CD2 e
      have HE := hide e
      clear e hR CD hRR K0 K1 K3 K4 K5 RG SP SN HL
      go_wp2_with fail
      go_quiet (first | (go_at_call 68; exact quiet_left (CC.out _)) | (go_at_call 71; exact Calls.quiet_of (CD2.out _ (fun p => rfl))))
      go_wp2_with fail
      go_ret2
      refine ⟨?_, Below.drewN_ HB13.out _⟩
      rw [HE.out]
      rfl
    · have hlook : (Instr.lookup 124 (.map (some mb)) (.int .u8 2) true).run Try.prog V13 = .ok (.tuple #[.func (.func 72) #[] #[.pointer (some ⟨q, 0, none⟩), .pointer (some ⟨q + 1, 0, none⟩)], .bool true]) V13 := HL.out
      have hR : 0 ≤ IntKind.u64.wrap (x * y) ∧ IntKind.u64.wrap (x * y) < 18446744073709551616 := (RG.out.2.2.2 _)
      have e : aluDoes 2 wide a b = (wordLow (IntKind.u64.wrap (x * y)) n, 0) := SP.out _ (by simp [aluOp])
      have CC := hide (fun (w : World) => word_low (IntKind.u64.wrap (x * y)) n hR.1 hR.2 w)
      have CD : ∀ W, (∀ p, W.cell? p = V13.cell? p) → Calls Try.prog 72 #[.pointer (some ⟨q, 0, none⟩), .pointer (some ⟨q + 1, 0, none⟩)] W fun e w' => e = .returned (.int .u64 (IntKind.u64.wrap (x * y))) ∧ ∃ k, w' = W.drewN k := fun W hW => by
        rw [← hW] at K0 K1 K2 K3 K4 K5
        exact (alu_do_3 _ q (q + 1) x y K0 K1).mono fun e w' h => ⟨h.1, 0, h.2.symm⟩
      have CD2 := hide CD
      obtain ⟨R, hRR⟩ : ∃ R : Int, IntKind.u64.wrap (x * y) = R := ⟨_, rfl⟩
      rw [hRR] at CC CD2 e
      have HE := hide e
      clear e hR CD hRR K0 K1 K3 K4 K5 RG SP SN HL
      go_wp2_with fail
      go_quiet (first | (go_at_call 68; exact quiet_left (CC.out _)) | (go_at_call 72; exact Calls.quiet_of (CD2.out _ (fun p => rfl))))
      go_wp2_with fail
      go_ret2
      refine ⟨?_, Below.drewN_ HB13.out _⟩
      rw [HE.out]
      rfl
    · have hlook : (Instr.lookup 124 (.map (some mb)) (.int .u8 3) true).run Try.prog V13 = .ok (.tuple #[.func (.func 73) #[] #[.pointer (some ⟨s + 1, 0, none⟩)], .bool true]) V13 := HL.out
      have hR : 0 ≤ qu ∧ qu < 18446744073709551616 := RG.out.1
      have e : aluDoes 3 wide a b = (wordLow (qu) n, 0) := SP.out _ (by simp [aluOp, HQU.out])
      have CC := hide (fun (w : World) => word_low (qu) n hR.1 hR.2 w)
      have CD : ∀ W, (∀ p, W.cell? p = V13.cell? p) → Calls Try.prog 73 #[.pointer (some ⟨s + 1, 0, none⟩)] W fun e w' => e = .returned (.int .u64 (qu)) ∧ ∃ k, w' = W.drewN k := fun W hW => by
        rw [← hW] at K0 K1 K2 K3 K4 K5
        exact (alu_do_4 _ (s + 1) qu K4).mono fun e w' h => ⟨h.1, 0, h.2.symm⟩
      have CD2 := hide CD
      obtain ⟨R, hRR⟩ : ∃ R : Int, qu = R := ⟨_, rfl⟩
      rw [hRR] at CC CD2 e
      have HE := hide e
      clear e hR CD hRR K0 K1 K3 K4 K5 RG SP SN HL
      go_wp2_with fail
      go_quiet (first | (go_at_call 68; exact quiet_left (CC.out _)) | (go_at_call 73; exact Calls.quiet_of (CD2.out _ (fun p => rfl))))
      go_wp2_with fail
      go_ret2
      refine ⟨?_, Below.drewN_ HB13.out _⟩
      rw [HE.out]
      rfl
    · have hlook : (Instr.lookup 124 (.map (some mb)) (.int .u8 4) true).run Try.prog V13 = .ok (.tuple #[.func (.func 75) #[] #[.pointer (some ⟨q, 0, none⟩), .pointer (some ⟨q + 1, 0, none⟩)], .bool true]) V13 := HL.out
      have hR : 0 ≤ bits .or .u64 x y ∧ bits .or .u64 x y < 18446744073709551616 := (bits_range _ x y)
      have e : aluDoes 4 wide a b = (wordLow (bits .or .u64 x y) n, 0) := SP.out _ (by simp [aluOp])
      have CC := hide (fun (w : World) => word_low (bits .or .u64 x y) n hR.1 hR.2 w)
      have CD : ∀ W, (∀ p, W.cell? p = V13.cell? p) → Calls Try.prog 75 #[.pointer (some ⟨q, 0, none⟩), .pointer (some ⟨q + 1, 0, none⟩)] W fun e w' => e = .returned (.int .u64 (bits .or .u64 x y)) ∧ ∃ k, w' = W.drewN k := fun W hW => by
        rw [← hW] at K0 K1 K2 K3 K4 K5
        exact (alu_do_6 _ q (q + 1) x y K0 K1).mono fun e w' h => ⟨h.1, 0, h.2.symm⟩
      have CD2 := hide CD
      obtain ⟨R, hRR⟩ : ∃ R : Int, bits .or .u64 x y = R := ⟨_, rfl⟩
      rw [hRR] at CC CD2 e
      have HE := hide e
      clear e hR CD hRR K0 K1 K3 K4 K5 RG SP SN HL
      go_wp2_with fail
      go_quiet (first | (go_at_call 68; exact quiet_left (CC.out _)) | (go_at_call 75; exact Calls.quiet_of (CD2.out _ (fun p => rfl))))
      go_wp2_with fail
      go_ret2
      refine ⟨?_, Below.drewN_ HB13.out _⟩
      rw [HE.out]
      rfl
    · have hlook : (Instr.lookup 124 (.map (some mb)) (.int .u8 5) true).run Try.prog V13 = .ok (.tuple #[.func (.func 76) #[] #[.pointer (some ⟨q, 0, none⟩), .pointer (some ⟨q + 1, 0, none⟩)], .bool true]) V13 := HL.out
      have hR : 0 ≤ bits .and .u64 x y ∧ bits .and .u64 x y < 18446744073709551616 := (bits_range _ x y)
      have e : aluDoes 5 wide a b = (wordLow (bits .and .u64 x y) n, 0) := SP.out _ (by simp [aluOp])
      have CC := hide (fun (w : World) => word_low (bits .and .u64 x y) n hR.1 hR.2 w)
      have CD : ∀ W, (∀ p, W.cell? p = V13.cell? p) → Calls Try.prog 76 #[.pointer (some ⟨q, 0, none⟩), .pointer (some ⟨q + 1, 0, none⟩)] W fun e w' => e = .returned (.int .u64 (bits .and .u64 x y)) ∧ ∃ k, w' = W.drewN k := fun W hW => by
        rw [← hW] at K0 K1 K2 K3 K4 K5
        exact (alu_do_7 _ q (q + 1) x y K0 K1).mono fun e w' h => ⟨h.1, 0, h.2.symm⟩
      have CD2 := hide CD
      obtain ⟨R, hRR⟩ : ∃ R : Int, bits .and .u64 x y = R := ⟨_, rfl⟩
      rw [hRR] at CC CD2 e
      have HE := hide e
      clear e hR CD hRR K0 K1 K3 K4 K5 RG SP SN HL
      go_wp2_with fail
      go_quiet (first | (go_at_call 68; exact quiet_left (CC.out _)) | (go_at_call 76; exact Calls.quiet_of (CD2.out _ (fun p => rfl))))
      go_wp2_with fail
      go_ret2
      refine ⟨?_, Below.drewN_ HB13.out _⟩
      rw [HE.out]
      rfl
    · have hlook : (Instr.lookup 124 (.map (some mb)) (.int .u8 6) true).run Try.prog V13 = .ok (.tuple #[.func (.func 78) #[] #[.pointer (some ⟨q, 0, none⟩), .pointer (some ⟨s, 0, none⟩)], .bool true]) V13 := HL.out
      have hR : 0 ≤ IntKind.u64.wrap (x * 2 ^ sh.toNat) ∧ IntKind.u64.wrap (x * 2 ^ sh.toNat) < 18446744073709551616 := (RG.out.2.2.2 _)
      have e : aluDoes 6 wide a b = (wordLow (IntKind.u64.wrap (x * 2 ^ sh.toNat)) n, 0) := SP.out _ (by simp [aluOp, HSH.out])
      have CC := hide (fun (w : World) => word_low (IntKind.u64.wrap (x * 2 ^ sh.toNat)) n hR.1 hR.2 w)
      have CD : ∀ W, (∀ p, W.cell? p = V13.cell? p) → Calls Try.prog 78 #[.pointer (some ⟨q, 0, none⟩), .pointer (some ⟨s, 0, none⟩)] W fun e w' => e = .returned (.int .u64 (IntKind.u64.wrap (x * 2 ^ sh.toNat))) ∧ ∃ k, w' = W.drewN k := fun W hW => by
        rw [← hW] at K0 K1 K2 K3 K4 K5
        exact (alu_do_9 _ q s x sh K0 K3 sh0 sh1).mono fun e w' h => ⟨h.1, 0, h.2.symm⟩
      have CD2 := hide CD
      obtain ⟨R, hRR⟩ : ∃ R : Int, IntKind.u64.wrap (x * 2 ^ sh.toNat) = R := ⟨_, rfl⟩
      rw [hRR] at CC CD2 e
      have HE := hide e
      clear e hR CD hRR K0 K1 K3 K4 K5 RG SP SN HL
      go_wp2_with fail
      go_quiet (first | (go_at_call 68; exact quiet_left (CC.out _)) | (go_at_call 78; exact Calls.quiet_of (CD2.out _ (fun p => rfl))))
      go_wp2_with fail
      go_ret2
      refine ⟨?_, Below.drewN_ HB13.out _⟩
      rw [HE.out]
      rfl
    · have hlook : (Instr.lookup 124 (.map (some mb)) (.int .u8 7) true).run Try.prog V13 = .ok (.tuple #[.func (.func 79) #[] #[.pointer (some ⟨q, 0, none⟩), .pointer (some ⟨s, 0, none⟩)], .bool true]) V13 := HL.out
      have hR : 0 ≤ x / 2 ^ sh.toNat ∧ x / 2 ^ sh.toNat < 18446744073709551616 := RG.out.2.2.1
      have e : aluDoes 7 wide a b = (wordLow (x / 2 ^ sh.toNat) n, 0) := SP.out _ (by simp [aluOp, HSH.out])
      have CC := hide (fun (w : World) => word_low (x / 2 ^ sh.toNat) n hR.1 hR.2 w)
      have CD : ∀ W, (∀ p, W.cell? p = V13.cell? p) → Calls Try.prog 79 #[.pointer (some ⟨q, 0, none⟩), .pointer (some ⟨s, 0, none⟩)] W fun e w' => e = .returned (.int .u64 (x / 2 ^ sh.toNat)) ∧ ∃ k, w' = W.drewN k := fun W hW => by
        rw [← hW] at K0 K1 K2 K3 K4 K5
        exact (alu_do_10 _ q s x sh K0 K3 sh0 sh1).mono fun e w' h => ⟨h.1, 0, h.2.symm⟩
      have CD2 := hide CD
      obtain ⟨R, hRR⟩ : ∃ R : Int, x / 2 ^ sh.toNat = R := ⟨_, rfl⟩
      rw [hRR] at CC CD2 e
      have HE := hide e
      clear e hR CD hRR K0 K1 K3 K4 K5 RG SP SN HL
      go_wp2_with fail
      go_quiet (first | (go_at_call 68; exact quiet_left (CC.out _)) | (go_at_call 79; exact Calls.quiet_of (CD2.out _ (fun p => rfl))))
      go_wp2_with fail
      go_ret2
      refine ⟨?_, Below.drewN_ HB13.out _⟩
      rw [HE.out]
      rfl
    · have hlook : (Instr.lookup 124 (.map (some mb)) (.int .u8 8) true).run Try.prog V13 = .ok (.tuple #[.func (.func 82) #[] #[.pointer (some ⟨q, 0, none⟩)], .bool true]) V13 := HL.out
      have hR : 0 ≤ IntKind.u64.wrap (-x) ∧ IntKind.u64.wrap (-x) < 18446744073709551616 := (RG.out.2.2.2 _)
      have e : aluDoes 8 wide a b = (wordLow (IntKind.u64.wrap (-x)) n, 0) := SP.out _ (by simp [aluOp])
      have CC := hide (fun (w : World) => word_low (IntKind.u64.wrap (-x)) n hR.1 hR.2 w)
      have CD : ∀ W, (∀ p, W.cell? p = V13.cell? p) → Calls Try.prog 82 #[.pointer (some ⟨q, 0, none⟩)] W fun e w' => e = .returned (.int .u64 (IntKind.u64.wrap (-x))) ∧ ∃ k, w' = W.drewN k := fun W hW => by
        rw [← hW] at K0 K1 K2 K3 K4 K5
        exact (alu_do_12 _ q x K0).mono fun e w' h => ⟨h.1, 0, h.2.symm⟩
      have CD2 := hide CD
      obtain ⟨R, hRR⟩ : ∃ R : Int, IntKind.u64.wrap (-x) = R := ⟨_, rfl⟩
      rw [hRR] at CC CD2 e
      have HE := hide e
      clear e hR CD hRR K0 K1 K3 K4 K5 RG SP SN HL
      go_wp2_with fail
      go_quiet (first | (go_at_call 68; exact quiet_left (CC.out _)) | (go_at_call 82; exact Calls.quiet_of (CD2.out _ (fun p => rfl))))
      go_wp2_with fail
      go_ret2
      refine ⟨?_, Below.drewN_ HB13.out _⟩
      rw [HE.out]
      rfl
    · have hlook : (Instr.lookup 124 (.map (some mb)) (.int .u8 9) true).run Try.prog V13 = .ok (.tuple #[.func (.func 74) #[] #[.pointer (some ⟨s + 1 + 1, 0, none⟩)], .bool true]) V13 := HL.out
      have hR : 0 ≤ re ∧ re < 18446744073709551616 := RG.out.2.1
      have e : aluDoes 9 wide a b = (wordLow (re) n, 0) := SP.out _ (by simp [aluOp, HRE.out])
      have CC := hide (fun (w : World) => word_low (re) n hR.1 hR.2 w)
      have CD : ∀ W, (∀ p, W.cell? p = V13.cell? p) → Calls Try.prog 74 #[.pointer (some ⟨s + 1 + 1, 0, none⟩)] W fun e w' => e = .returned (.int .u64 (re)) ∧ ∃ k, w' = W.drewN k := fun W hW => by
        rw [← hW] at K0 K1 K2 K3 K4 K5
        exact (alu_do_5 _ (s + 1 + 1) re K5).mono fun e w' h => ⟨h.1, 0, h.2.symm⟩
      have CD2 := hide CD
      obtain ⟨R, hRR⟩ : ∃ R : Int, re = R := ⟨_, rfl⟩
      rw [hRR] at CC CD2 e
      have HE := hide e
      clear e hR CD hRR K0 K1 K3 K4 K5 RG SP SN HL
      go_wp2_with fail
      go_quiet (first | (go_at_call 68; exact quiet_left (CC.out _)) | (go_at_call 74; exact Calls.quiet_of (CD2.out _ (fun p => rfl))))
      go_wp2_with fail
      go_ret2
      refine ⟨?_, Below.drewN_ HB13.out _⟩
      rw [HE.out]
      rfl
    · have hlook : (Instr.lookup 124 (.map (some mb)) (.int .u8 10) true).run Try.prog V13 = .ok (.tuple #[.func (.func 77) #[] #[.pointer (some ⟨q, 0, none⟩), .pointer (some ⟨q + 1, 0, none⟩)], .bool true]) V13 := HL.out
      have hR : 0 ≤ bits .xor .u64 x y ∧ bits .xor .u64 x y < 18446744073709551616 := (bits_range _ x y)
      have e : aluDoes 10 wide a b = (wordLow (bits .xor .u64 x y) n, 0) := SP.out _ (by simp [aluOp])
      have CC := hide (fun (w : World) => word_low (bits .xor .u64 x y) n hR.1 hR.2 w)
      have CD : ∀ W, (∀ p, W.cell? p = V13.cell? p) → Calls Try.prog 77 #[.pointer (some ⟨q, 0, none⟩), .pointer (some ⟨q + 1, 0, none⟩)] W fun e w' => e = .returned (.int .u64 (bits .xor .u64 x y)) ∧ ∃ k, w' = W.drewN k := fun W hW => by
        rw [← hW] at K0 K1 K2 K3 K4 K5
        exact (alu_do_8 _ q (q + 1) x y K0 K1).mono fun e w' h => ⟨h.1, 0, h.2.symm⟩
      have CD2 := hide CD
      obtain ⟨R, hRR⟩ : ∃ R : Int, bits .xor .u64 x y = R := ⟨_, rfl⟩
      rw [hRR] at CC CD2 e
      have HE := hide e
      clear e hR CD hRR K0 K1 K3 K4 K5 RG SP SN HL
      go_wp2_with fail
      go_quiet (first | (go_at_call 68; exact quiet_left (CC.out _)) | (go_at_call 77; exact Calls.quiet_of (CD2.out _ (fun p => rfl))))
      go_wp2_with fail
      go_ret2
      refine ⟨?_, Below.drewN_ HB13.out _⟩
      rw [HE.out]
      rfl
    · have hlook : (Instr.lookup 124 (.map (some mb)) (.int .u8 11) true).run Try.prog V13 = .ok (.tuple #[.func (.func 83) #[] #[.pointer (some ⟨q + 1, 0, none⟩)], .bool true]) V13 := HL.out
      have hR : 0 ≤ y ∧ y < 18446744073709551616 := (And.intro y0 y2)
      have e : aluDoes 11 wide a b = (wordLow (y) n, 0) := SP.out _ (by simp [aluOp])
      have CC := hide (fun (w : World) => word_low (y) n hR.1 hR.2 w)
      have CD : ∀ W, (∀ p, W.cell? p = V13.cell? p) → Calls Try.prog 83 #[.pointer (some ⟨q + 1, 0, none⟩)] W fun e w' => e = .returned (.int .u64 (y)) ∧ ∃ k, w' = W.drewN k := fun W hW => by
        rw [← hW] at K0 K1 K2 K3 K4 K5
        exact (alu_do_13 _ (q + 1) y K1).mono fun e w' h => ⟨h.1, 0, h.2.symm⟩
      have CD2 := hide CD
      obtain ⟨R, hRR⟩ : ∃ R : Int, y = R := ⟨_, rfl⟩
      rw [hRR] at CC CD2 e
      have HE := hide e
      clear e hR CD hRR K0 K1 K3 K4 K5 RG SP SN HL
      go_wp2_with fail
      go_quiet (first | (go_at_call 68; exact quiet_left (CC.out _)) | (go_at_call 83; exact Calls.quiet_of (CD2.out _ (fun p => rfl))))
      go_wp2_with fail
      go_ret2
      refine ⟨?_, Below.drewN_ HB13.out _⟩
      rw [HE.out]
      rfl
    · have hlook : (Instr.lookup 124 (.map (some mb)) (.int .u8 12) true).run Try.prog V13 = .ok (.tuple #[.func (.func 80) #[] #[.pointer (some ⟨q, 0, none⟩), .pointer (some ⟨q + 1 + 1, 0, none⟩), .pointer (some ⟨s, 0, none⟩)], .bool true]) V13 := HL.out
      have hR : 0 ≤ IntKind.u64.wrap (wordSign x n / 2 ^ sh.toNat) ∧ IntKind.u64.wrap (wordSign x n / 2 ^ sh.toNat) < 18446744073709551616 := (RG.out.2.2.2 _)
      have e : aluDoes 12 wide a b = (wordLow (IntKind.u64.wrap (wordSign x n / 2 ^ sh.toNat)) n, 0) := SP.out _ (by simp [aluOp, HSH.out])
      have CC := hide (fun (w : World) => word_low (IntKind.u64.wrap (wordSign x n / 2 ^ sh.toNat)) n hR.1 hR.2 w)
      have CD : ∀ W, (∀ p, W.cell? p = V13.cell? p) → Calls Try.prog 80 #[.pointer (some ⟨q, 0, none⟩), .pointer (some ⟨q + 1 + 1, 0, none⟩), .pointer (some ⟨s, 0, none⟩)] W fun e w' => e = .returned (.int .u64 (IntKind.u64.wrap (wordSign x n / 2 ^ sh.toNat))) ∧ ∃ k, w' = W.drewN k := fun W hW => by
        rw [← hW] at K0 K1 K2 K3 K4 K5
        exact (alu_do_11 _ q (q + 1 + 1) s x n sh K0 K2 K3 x0 x2 sh0 sh1).mono fun e w' h => h
      have CD2 := hide CD
      obtain ⟨R, hRR⟩ : ∃ R : Int, IntKind.u64.wrap (wordSign x n / 2 ^ sh.toNat) = R := ⟨_, rfl⟩
      rw [hRR] at CC CD2 e
      have HE := hide e
      clear e hR CD hRR K0 K1 K3 K4 K5 RG SP SN HL
      go_wp2_with fail
      go_quiet (first | (go_at_call 68; exact quiet_left (CC.out _)) | (go_at_call 80; exact Calls.quiet_of (CD2.out _ (fun p => rfl))))
      go_wp2_with fail
      go_ret2
      refine ⟨?_, Below.drewN_ HB13.out _⟩
      rw [HE.out]
      rfl

end Go.Proofs.Ytcddpmiandgkjaa
