import Derived.Test.YtcddpmiandgkjaaStkZ
/-! Package stack: the document's answer (wardenref23): Store. -/
namespace Go.Proofs.Ytcddpmiandgkjaa
open Go.RowKit Go.Maps Go.Lib Go.Deep
set_option maxHeartbeats 20000000
set_option maxRecDepth 100000
set_option linter.unusedSimpArgs false
set_option linter.unusedVariables false

theorem plain_is (v : AV) : (v.plain.sort == 0) = !v.is := by cases v <;> rfl
theorem plain_one (v : AV) : (v.plain.sort == 1) = v.numOf.isSome := by cases v <;> rfl

/-- A stack's state in the midst of the document's Store. -/
def Stk.midx (σ : Stk) (f : Nat) (t : List Int) (k : Nat) : Stk := ⟨putN σ.b f t k, setN σ.s f true k, clrN σ.l f k⟩

theorem str_at8 (t : List Int) (ht : ∀ y ∈ t, 0 ≤ y ∧ y < 256) (k : Nat) (h : k < (strOfNums t).size) : (((strOfNums t)[k]'h).toNat : Int) = t.getD k 0 := by
  have hk : k < t.length := by rw [strOfNums_size_] at h; exact h
  have h2 := ht t[k] (List.getElem_mem hk)
  rw [List.getD_eq_getElem?_getD, List.getElem?_eq_getElem hk, Option.getD_some]
  simp [strOfNums, ByteArray.getElem_eq_getElem_data]
  omega

theorem getD_range (t : List Int) (ht : ∀ y ∈ t, 0 ≤ y ∧ y < 256) (k : Nat) (hk : k < t.length) : 0 ≤ t.getD k 0 ∧ t.getD k 0 < 256 := by
  rw [List.getD_eq_getElem?_getD, List.getElem?_eq_getElem hk]
  exact ht _ (List.getElem_mem hk)

theorem xtk_store (w : World) (x : Nat) (σ : Stk) (h : XtkIs w x σ) (a n : Int) (v : V22) (hv : v.av.fits) :
    Calls Try.prog 19 #[.pointer (some ⟨x, 0, none⟩), .int .i64 a, .int .i64 n, v.agg] w fun e w' => e = .returned (.int .i64 (σ.store a n v.av).2) ∧ XtkIs w' x (σ.store a n v.av).1 ∧ Turned (fun k => k = x) w w' := by
  unfold V22.agg
  obtain ⟨w0, hw0⟩ : ∃ w0, w0 = w.alloc (.cells #[.int .u8 v.sort, .int .u64 v.n, .int .i64 v.a, .int .i64 v.b, .int .i64 v.off, .int .u64 v.gen] 25) := ⟨_, rfl⟩
  have B0 := hide (show Below w.heap.size w w0 by rw [hw0]; exact (Below.refl _ w).alloc (Nat.le_refl _) _)
  have H := hide (h.below B0.out)
  have HB := hide (show Has w0 w.heap.size 25 #[.int .u8 v.sort, .int .u64 v.n, .int .i64 v.a, .int .i64 v.b, .int .i64 v.off, .int .u64 v.gen] by rw [hw0]; exact Has.new w _ _)
  have hlx := h.lt
  have HLX := hide hlx
  have hne1 : ¬ x = w.heap.size := by omega
  have hne2 : ¬ w.heap.size = x := by omega
  have HW0 := hide hw0
  have HC := hide (fun W => val_clean W v)
  clear h hw0 hlx
  obtain ⟨u, hu⟩ : ∃ u, u = v.av := ⟨_, rfl⟩
  rw [← hu] at HC hv ⊢
  obtain ⟨pv, hpv⟩ : ∃ pv, pv = u.plain := ⟨_, rfl⟩
  rw [← hpv] at HC
  have hp0 : (pv.sort == 0) = !u.is := by rw [hpv]; exact plain_is u
  have hp1 : (pv.sort == 1) = u.numOf.isSome := by rw [hpv]; exact plain_one u
  have C2 := fun W => xtk_within W a n
  cases hi : stkIn a n with
  | false =>
    rw [hi] at C2
    have C2 := hide C2
    have hr : σ.store a n u = (σ, 230) := if_pos hi
    rw [hr]
    have HH := hide (And.intro hp0 (And.intro hp1 (And.intro hpv hu)))
    clear hr hp0 hp1 hpv hu hv hi
    go_enter Try.func19, Try.ntmps19
    go_wp2_with fail
    rw [← HW0.out]
    refine (HC.out w0).mono ?_
    rintro e w1 ⟨rfl, hb⟩
    have H := hide (H.out.below hb)
    have HB := hide (HB.out.below hb HB.out.lt)
    have B0 := hide (below_on B0.out hb)
    clear hb
    have g0 : w1.cell? ⟨w.heap.size, 0, none⟩ = some (.int .u8 v.sort) := HB.out.cell 0
    have f0 := HB.out.free 0
    have g1 : w1.cell? ⟨w.heap.size, 1, none⟩ = some (.int .u64 v.n) := HB.out.cell 1
    have f1 := HB.out.free 1
    have g2 : w1.cell? ⟨w.heap.size, 2, none⟩ = some (.int .i64 v.a) := HB.out.cell 2
    have f2 := HB.out.free 2
    have g3 : w1.cell? ⟨w.heap.size, 3, none⟩ = some (.int .i64 v.b) := HB.out.cell 3
    have f3 := HB.out.free 3
    have g4 : w1.cell? ⟨w.heap.size, 4, none⟩ = some (.int .i64 v.off) := HB.out.cell 4
    have f4 := HB.out.free 4
    have g5 : w1.cell? ⟨w.heap.size, 5, none⟩ = some (.int .u64 v.gen) := HB.out.cell 5
    have f5 := HB.out.free 5
    simp only [V22.agg]
    go_wp2_with fail
    have HB6 := hide (show Has ((((((w1.setCell ⟨w.heap.size, 0, none⟩ (.int .u8 pv.sort)).setCell ⟨w.heap.size, 1, none⟩ (.int .u64 pv.n)).setCell ⟨w.heap.size, 2, none⟩ (.int .i64 pv.a)).setCell ⟨w.heap.size, 3, none⟩ (.int .i64 pv.b)).setCell ⟨w.heap.size, 4, none⟩ (.int .i64 pv.off)).setCell ⟨w.heap.size, 5, none⟩ (.int .u64 pv.gen)) w.heap.size 25 #[.int .u8 pv.sort, .int .u64 pv.n, .int .i64 pv.a, .int .i64 pv.b, .int .i64 pv.off, .int .u64 pv.gen] from by
      have := (((((HB.out.set 0 (.int .u8 pv.sort)).set 1 (.int .u64 pv.n)).set 2 (.int .i64 pv.a)).set 3 (.int .i64 pv.b)).set 4 (.int .i64 pv.off)).set 5 (.int .u64 pv.gen)
      simpa using this)
    have HT6 := hide (show Turned (fun k => k = w.heap.size) w1 ((((((w1.setCell ⟨w.heap.size, 0, none⟩ (.int .u8 pv.sort)).setCell ⟨w.heap.size, 1, none⟩ (.int .u64 pv.n)).setCell ⟨w.heap.size, 2, none⟩ (.int .i64 pv.a)).setCell ⟨w.heap.size, 3, none⟩ (.int .i64 pv.b)).setCell ⟨w.heap.size, 4, none⟩ (.int .i64 pv.off)).setCell ⟨w.heap.size, 5, none⟩ (.int .u64 pv.gen)) from
      ((((((Turned.refl (fun k => k = w.heap.size) w1).set (p := ⟨w.heap.size, 0, none⟩) (fun _ => rfl) _).set (p := ⟨w.heap.size, 1, none⟩) (fun _ => rfl) _).set (p := ⟨w.heap.size, 2, none⟩) (fun _ => rfl) _).set (p := ⟨w.heap.size, 3, none⟩) (fun _ => rfl) _).set (p := ⟨w.heap.size, 4, none⟩) (fun _ => rfl) _).set (p := ⟨w.heap.size, 5, none⟩) (fun _ => rfl) _)
    clear g0 g1 g2 g3 g4 g5 f0 f1 f2 f3 f4 f5
    obtain ⟨w6, hw6⟩ : ∃ w6, w6 = (((((w1.setCell ⟨w.heap.size, 0, none⟩ (.int .u8 pv.sort)).setCell ⟨w.heap.size, 1, none⟩ (.int .u64 pv.n)).setCell ⟨w.heap.size, 2, none⟩ (.int .i64 pv.a)).setCell ⟨w.heap.size, 3, none⟩ (.int .i64 pv.b)).setCell ⟨w.heap.size, 4, none⟩ (.int .i64 pv.off)).setCell ⟨w.heap.size, 5, none⟩ (.int .u64 pv.gen) := ⟨_, rfl⟩
    rw [← hw6] at HB6 HT6
    rw [← hw6]
    clear hw6
    have H := hide (H.out.turned HT6.out hne1)
    have B0 := hide (B0.out.trans (HT6.out.below B0.out.size (fun k hk => by omega)))
    have HB := HB6
    clear HB6 HT6
    refine (C2.out _).mono ?_
    rintro e w7 ⟨rfl, rfl⟩
    go_wp2_with fail
    go_ret
    exact ⟨rfl, H.out, Turned.of_below B0.out⟩
  | true =>
    rw [hi] at C2
    have C2 := hide C2
    obtain ⟨hn, ha0, ha1⟩ := load_in σ a n hi
    obtain ⟨f, hf⟩ : ∃ f : Nat, a + 128 = f := ⟨(a + 128).toNat, by omega⟩
    have hft : (a + 128).toNat = f := by omega
    have hw2 : IntKind.i64.wrap (a + 128) = (f : Int) := by rw [wrap_i64 (by omega) (by omega)]; exact hf
    cases his : u.is with
    | false =>
      have hr : σ.store a n u = (σ, 220) := by unfold Stk.store; rw [if_neg (by simp [hi]), if_pos his]
      rw [hr]
      rw [his] at hp0
      have hs0 : pv.sort = 0 := by simpa using hp0
      have HH := hide (And.intro hp0 (And.intro hp1 (And.intro hpv (And.intro hu hs0))))
      clear hr hpv hu hv hi his hn ha0 ha1 hf hft hp1 hp0 hw2 hs0
      go_enter Try.func19, Try.ntmps19
      go_wp2_with fail
      rw [← HW0.out]
      refine (HC.out w0).mono ?_
      rintro e w1 ⟨rfl, hb⟩
      have H := hide (H.out.below hb)
      have HB := hide (HB.out.below hb HB.out.lt)
      have B0 := hide (below_on B0.out hb)
      clear hb
      have g0 : w1.cell? ⟨w.heap.size, 0, none⟩ = some (.int .u8 v.sort) := HB.out.cell 0
      have f0 := HB.out.free 0
      have g1 : w1.cell? ⟨w.heap.size, 1, none⟩ = some (.int .u64 v.n) := HB.out.cell 1
      have f1 := HB.out.free 1
      have g2 : w1.cell? ⟨w.heap.size, 2, none⟩ = some (.int .i64 v.a) := HB.out.cell 2
      have f2 := HB.out.free 2
      have g3 : w1.cell? ⟨w.heap.size, 3, none⟩ = some (.int .i64 v.b) := HB.out.cell 3
      have f3 := HB.out.free 3
      have g4 : w1.cell? ⟨w.heap.size, 4, none⟩ = some (.int .i64 v.off) := HB.out.cell 4
      have f4 := HB.out.free 4
      have g5 : w1.cell? ⟨w.heap.size, 5, none⟩ = some (.int .u64 v.gen) := HB.out.cell 5
      have f5 := HB.out.free 5
      simp only [V22.agg]
      go_wp2_with fail
      have HB6 := hide (show Has ((((((w1.setCell ⟨w.heap.size, 0, none⟩ (.int .u8 pv.sort)).setCell ⟨w.heap.size, 1, none⟩ (.int .u64 pv.n)).setCell ⟨w.heap.size, 2, none⟩ (.int .i64 pv.a)).setCell ⟨w.heap.size, 3, none⟩ (.int .i64 pv.b)).setCell ⟨w.heap.size, 4, none⟩ (.int .i64 pv.off)).setCell ⟨w.heap.size, 5, none⟩ (.int .u64 pv.gen)) w.heap.size 25 #[.int .u8 pv.sort, .int .u64 pv.n, .int .i64 pv.a, .int .i64 pv.b, .int .i64 pv.off, .int .u64 pv.gen] from by
        have := (((((HB.out.set 0 (.int .u8 pv.sort)).set 1 (.int .u64 pv.n)).set 2 (.int .i64 pv.a)).set 3 (.int .i64 pv.b)).set 4 (.int .i64 pv.off)).set 5 (.int .u64 pv.gen)
        simpa using this)
      have HT6 := hide (show Turned (fun k => k = w.heap.size) w1 ((((((w1.setCell ⟨w.heap.size, 0, none⟩ (.int .u8 pv.sort)).setCell ⟨w.heap.size, 1, none⟩ (.int .u64 pv.n)).setCell ⟨w.heap.size, 2, none⟩ (.int .i64 pv.a)).setCell ⟨w.heap.size, 3, none⟩ (.int .i64 pv.b)).setCell ⟨w.heap.size, 4, none⟩ (.int .i64 pv.off)).setCell ⟨w.heap.size, 5, none⟩ (.int .u64 pv.gen)) from
        ((((((Turned.refl (fun k => k = w.heap.size) w1).set (p := ⟨w.heap.size, 0, none⟩) (fun _ => rfl) _).set (p := ⟨w.heap.size, 1, none⟩) (fun _ => rfl) _).set (p := ⟨w.heap.size, 2, none⟩) (fun _ => rfl) _).set (p := ⟨w.heap.size, 3, none⟩) (fun _ => rfl) _).set (p := ⟨w.heap.size, 4, none⟩) (fun _ => rfl) _).set (p := ⟨w.heap.size, 5, none⟩) (fun _ => rfl) _)
      clear g0 g1 g2 g3 g4 g5 f0 f1 f2 f3 f4 f5
      obtain ⟨w6, hw6⟩ : ∃ w6, w6 = (((((w1.setCell ⟨w.heap.size, 0, none⟩ (.int .u8 pv.sort)).setCell ⟨w.heap.size, 1, none⟩ (.int .u64 pv.n)).setCell ⟨w.heap.size, 2, none⟩ (.int .i64 pv.a)).setCell ⟨w.heap.size, 3, none⟩ (.int .i64 pv.b)).setCell ⟨w.heap.size, 4, none⟩ (.int .i64 pv.off)).setCell ⟨w.heap.size, 5, none⟩ (.int .u64 pv.gen) := ⟨_, rfl⟩
      rw [← hw6] at HB6 HT6
      rw [← hw6]
      clear hw6
      have H := hide (H.out.turned HT6.out hne1)
      have B0 := hide (B0.out.trans (HT6.out.below B0.out.size (fun k hk => by omega)))
      have HB := HB6
      clear HB6 HT6
      refine (C2.out _).mono ?_
      rintro e w7 ⟨rfl, rfl⟩
      have g0 : w6.cell? ⟨w.heap.size, 0, none⟩ = some (.int .u8 pv.sort) := HB.out.cell 0
      have g1 : w6.cell? ⟨w.heap.size, 1, none⟩ = some (.int .u64 pv.n) := HB.out.cell 1
      have g2 : w6.cell? ⟨w.heap.size, 2, none⟩ = some (.int .i64 pv.a) := HB.out.cell 2
      have g3 : w6.cell? ⟨w.heap.size, 3, none⟩ = some (.int .i64 pv.b) := HB.out.cell 3
      have g4 : w6.cell? ⟨w.heap.size, 4, none⟩ = some (.int .i64 pv.off) := HB.out.cell 4
      have g5 : w6.cell? ⟨w.heap.size, 5, none⟩ = some (.int .u64 pv.gen) := HB.out.cell 5
      rw [HH.out.2.2.2.2] at g0
      go_wp2_with fail
      go_ret
      exact ⟨rfl, H.out, Turned.of_below B0.out⟩
    | true =>
      rw [his] at hp0
      rcases u.num_form with ⟨q, _, hq⟩ | ⟨_, hno⟩
      · obtain ⟨m, rfl⟩ : ∃ m : Nat, n = m := ⟨n.toNat, by omega⟩
        have hfm : f + m ≤ 128 := by omega
        have hr : σ.store a m u = (σ.num f m q, 0) := by rw [hq] at his ⊢; unfold Stk.store; rw [if_neg (by simp [hi]), if_neg (by simp [his])]; simp only [AV.numOf, hft, Int.toNat_natCast]
        rw [hr]
        have hs1 : pv.sort = 1 := by rw [hpv, hq]; rfl
        have hpn : pv.n = q := by rw [hpv, hq]; rfl
        have hfx : 0 ≤ q ∧ q < 18446744073709551616 := by rw [hq] at hv; exact hv
        have hwo : wordOf q m = strOfNums (wordNums q m) := by unfold wordOf; rw [if_pos hn]; rfl
        have CO := fun W => ref_of q m hfx.1 hfx.2 W
        rw [hwo] at CO
        have hln : (wordNums q m).length = m := wordNums_length q m
        have hTs : (strOfNums (wordNums q m)).size = m := by rw [strOfNums_size_, hln]
        have HTK := hide (fun k => str_at8 (wordNums q m) (wordNums_range q m) k)
        have HTR := hide (fun k (hk : k < m) => getD_range (wordNums q m) (wordNums_range q m) k (by rw [hln]; exact hk))
        obtain ⟨T, hT⟩ : ∃ T, T = strOfNums (wordNums q m) := ⟨_, rfl⟩
        rw [← hT] at CO hTs HTK
        have CO := hide CO
        have HH := hide (And.intro hs1 (And.intro hpn (And.intro hT (And.intro hu (And.intro hq hpv)))))
        have HF := hide hf
        have hm8 : m ≤ 8 := by omega
        clear hr hpv hu hv hi his hn ha0 ha1 hf hft hp0 hp1 hq hs1 hpn hT hwo hfx hln
        go_enter Try.func19, Try.ntmps19
        go_wp2_with fail
        rw [← HW0.out]
        refine (HC.out w0).mono ?_
        rintro e w1 ⟨rfl, hb⟩
        have H := hide (H.out.below hb)
        have HB := hide (HB.out.below hb HB.out.lt)
        have B0 := hide (below_on B0.out hb)
        clear hb
        have g0 : w1.cell? ⟨w.heap.size, 0, none⟩ = some (.int .u8 v.sort) := HB.out.cell 0
        have f0 := HB.out.free 0
        have g1 : w1.cell? ⟨w.heap.size, 1, none⟩ = some (.int .u64 v.n) := HB.out.cell 1
        have f1 := HB.out.free 1
        have g2 : w1.cell? ⟨w.heap.size, 2, none⟩ = some (.int .i64 v.a) := HB.out.cell 2
        have f2 := HB.out.free 2
        have g3 : w1.cell? ⟨w.heap.size, 3, none⟩ = some (.int .i64 v.b) := HB.out.cell 3
        have f3 := HB.out.free 3
        have g4 : w1.cell? ⟨w.heap.size, 4, none⟩ = some (.int .i64 v.off) := HB.out.cell 4
        have f4 := HB.out.free 4
        have g5 : w1.cell? ⟨w.heap.size, 5, none⟩ = some (.int .u64 v.gen) := HB.out.cell 5
        have f5 := HB.out.free 5
        simp only [V22.agg]
        go_wp2_with fail
        have HB6 := hide (show Has ((((((w1.setCell ⟨w.heap.size, 0, none⟩ (.int .u8 pv.sort)).setCell ⟨w.heap.size, 1, none⟩ (.int .u64 pv.n)).setCell ⟨w.heap.size, 2, none⟩ (.int .i64 pv.a)).setCell ⟨w.heap.size, 3, none⟩ (.int .i64 pv.b)).setCell ⟨w.heap.size, 4, none⟩ (.int .i64 pv.off)).setCell ⟨w.heap.size, 5, none⟩ (.int .u64 pv.gen)) w.heap.size 25 #[.int .u8 pv.sort, .int .u64 pv.n, .int .i64 pv.a, .int .i64 pv.b, .int .i64 pv.off, .int .u64 pv.gen] from by
          have := (((((HB.out.set 0 (.int .u8 pv.sort)).set 1 (.int .u64 pv.n)).set 2 (.int .i64 pv.a)).set 3 (.int .i64 pv.b)).set 4 (.int .i64 pv.off)).set 5 (.int .u64 pv.gen)
          simpa using this)
        have HT6 := hide (show Turned (fun k => k = w.heap.size) w1 ((((((w1.setCell ⟨w.heap.size, 0, none⟩ (.int .u8 pv.sort)).setCell ⟨w.heap.size, 1, none⟩ (.int .u64 pv.n)).setCell ⟨w.heap.size, 2, none⟩ (.int .i64 pv.a)).setCell ⟨w.heap.size, 3, none⟩ (.int .i64 pv.b)).setCell ⟨w.heap.size, 4, none⟩ (.int .i64 pv.off)).setCell ⟨w.heap.size, 5, none⟩ (.int .u64 pv.gen)) from
          ((((((Turned.refl (fun k => k = w.heap.size) w1).set (p := ⟨w.heap.size, 0, none⟩) (fun _ => rfl) _).set (p := ⟨w.heap.size, 1, none⟩) (fun _ => rfl) _).set (p := ⟨w.heap.size, 2, none⟩) (fun _ => rfl) _).set (p := ⟨w.heap.size, 3, none⟩) (fun _ => rfl) _).set (p := ⟨w.heap.size, 4, none⟩) (fun _ => rfl) _).set (p := ⟨w.heap.size, 5, none⟩) (fun _ => rfl) _)
        clear g0 g1 g2 g3 g4 g5 f0 f1 f2 f3 f4 f5
        obtain ⟨w6, hw6⟩ : ∃ w6, w6 = (((((w1.setCell ⟨w.heap.size, 0, none⟩ (.int .u8 pv.sort)).setCell ⟨w.heap.size, 1, none⟩ (.int .u64 pv.n)).setCell ⟨w.heap.size, 2, none⟩ (.int .i64 pv.a)).setCell ⟨w.heap.size, 3, none⟩ (.int .i64 pv.b)).setCell ⟨w.heap.size, 4, none⟩ (.int .i64 pv.off)).setCell ⟨w.heap.size, 5, none⟩ (.int .u64 pv.gen) := ⟨_, rfl⟩
        rw [← hw6] at HB6 HT6
        rw [← hw6]
        clear hw6
        have H := hide (H.out.turned HT6.out hne1)
        have B0 := hide (B0.out.trans (HT6.out.below B0.out.size (fun k hk => by omega)))
        have HB := HB6
        clear HB6 HT6
        refine (C2.out _).mono ?_
        rintro e w7 ⟨rfl, rfl⟩
        have g0 : w6.cell? ⟨w.heap.size, 0, none⟩ = some (.int .u8 pv.sort) := HB.out.cell 0
        have g1 : w6.cell? ⟨w.heap.size, 1, none⟩ = some (.int .u64 pv.n) := HB.out.cell 1
        have g2 : w6.cell? ⟨w.heap.size, 2, none⟩ = some (.int .i64 pv.a) := HB.out.cell 2
        have g3 : w6.cell? ⟨w.heap.size, 3, none⟩ = some (.int .i64 pv.b) := HB.out.cell 3
        have g4 : w6.cell? ⟨w.heap.size, 4, none⟩ = some (.int .i64 pv.off) := HB.out.cell 4
        have g5 : w6.cell? ⟨w.heap.size, 5, none⟩ = some (.int .u64 pv.gen) := HB.out.cell 5
        rw [HH.out.1] at g0
        rw [HH.out.2.1] at g1
        go_wp2_with fail
        refine (CO.out _).mono ?_
        rintro e w8 ⟨rfl, hb⟩
        have H := hide (H.out.below hb)
        have T0 := hide (Turned.of_below (S := fun k => k = x) (below_on B0.out hb))
        clear g0 g1 g2 g3 g4 g5
        clear hb B0 HB
        go_wp2_with fail
        go_loopw [12] (fun i wr => ∃ (k : Nat), k ≤ m ∧ i = .int .i64 k ∧ XtkIs wr x (σ.midx f (wordNums q m) k) ∧ Turned (fun k => k = x) w wr) (fun i _ => m - (intOf i).toNat)
        case atStart => exact ⟨0, by omega, rfl, H.out, T0.out⟩
        case round =>
          clear H T0
          obtain ⟨k, hk, rfl, hX, hT⟩ := hrel
          have H := hide hX
          have T0 := hide hT
          clear hX hT
          by_cases hlt : k < m
          · have hki : (k : Int) < (m : Int) := by omega
            have hkw : IntKind.i64.wrap ((k : Int) + 1) = (k : Int) + 1 := wrap_i64 (by omega) (by omega)
            have hs := H.out.cslot (k := (f + k) / 8) (by omega)
            generalize ((σ.midx f (wordNums q m) k).slot ((f + k) / 8)).plain = sv at hs
            rw [Nat.mul_comm 6] at hs
            obtain ⟨P, hP⟩ : ∃ P, 256 + (f + k) / 8 * 6 = P := ⟨_, rfl⟩
            rw [hP] at hs
            have c0 : wr.cell? ⟨x, P, none⟩ = some (.int .u8 sv.sort) := hs 0 _ rfl
            have c1 : wr.cell? ⟨x, P + 1, none⟩ = some (.int .u64 sv.n) := hs 1 _ rfl
            have c2 : wr.cell? ⟨x, P + 2, none⟩ = some (.int .i64 sv.a) := hs 2 _ rfl
            have c3 : wr.cell? ⟨x, P + 3, none⟩ = some (.int .i64 sv.b) := hs 3 _ rfl
            have c4 : wr.cell? ⟨x, P + 4, none⟩ = some (.int .i64 sv.off) := hs 4 _ rfl
            have c5 : wr.cell? ⟨x, P + 5, none⟩ = some (.int .u64 sv.gen) := hs 5 _ rfl
            have e0 := H.out.free P
            have e1 := H.out.free (P + 1)
            have e2 := H.out.free (P + 2)
            have e3 := H.out.free (P + 3)
            have e4 := H.out.free (P + 4)
            have e5 := H.out.free (P + 5)
            have hq1 : ((f : Int) + (k : Int)) / 8 < 16 := by omega
            have hq2 : ((f : Int) + (k : Int)) < 128 := by omega
            clear hs
            go_wp2_with fail
            obtain ⟨W1, hW1⟩ : ∃ W1, W1 = ((((((wr.setCell ⟨x, P, none⟩ (.int .u8 0)).setCell ⟨x, P + 1, none⟩ (.int .u64 0)).setCell ⟨x, P + 2, none⟩ (.int .i64 0)).setCell ⟨x, P + 3, none⟩ (.int .i64 0)).setCell ⟨x, P + 4, none⟩ (.int .i64 0)).setCell ⟨x, P + 5, none⟩ (.int .u64 0)) := ⟨_, rfl⟩
            have X1 := H.out.setL (k := (f + k) / 8) (by omega) .nil (.inl rfl)
            rw [hP] at X1
            have X1 := hide (show XtkIs W1 x _ by rw [hW1]; exact X1)
            have T1 := hide (show Turned (fun k => k = x) w W1 by
              rw [hW1]
              exact (((((T0.out.set (p := ⟨x, P, none⟩) (fun _ => rfl) _).set (p := ⟨x, P + 1, none⟩) (fun _ => rfl) _).set (p := ⟨x, P + 2, none⟩) (fun _ => rfl) _).set (p := ⟨x, P + 3, none⟩) (fun _ => rfl) _).set (p := ⟨x, P + 4, none⟩) (fun _ => rfl) _).set (p := ⟨x, P + 5, none⟩) (fun _ => rfl) _)
            rw [← hW1]
            clear hW1 c0 c1 c2 c3 c4 c5 e0 e1 e2 e3 e4 e5 hP hq1
            have hcb := X1.out.cbyte (j := f + k) (by omega)
            have hfb := X1.out.free (f + k)
            have hy := HTK.out k
            have hyr := HTR.out k hlt
            obtain ⟨y, hyy⟩ : ∃ y, y = (wordNums q m).getD k 0 := ⟨_, rfl⟩
            rw [← hyy] at hy hyr
            have X2 := X1.out.setB (j := f + k) (by omega) y hyr
            have T2 := T1.out.set (p := ⟨x, f + k, none⟩) (fun _ => rfl) (.int .u8 y)
            have hcs := X2.drew.cset (j := f + k) (by omega)
            have hfs := X2.drew.free (128 + (f + k))
            have X3 := hide (X2.drew.setS (j := f + k) (by omega) true)
            have T3 := hide (T2.drew.set (p := ⟨x, 128 + (f + k), none⟩) (fun _ => rfl) (.bool true))
            have HY := hide hyy
            have HYR := hide hyr
            clear X2 T2 hyy hyr
            go_region
            go_wp2_with fail
            refine ⟨⟨k + 1, by omega, by simp, ?_, T3.out⟩, by simp [intOf]; omega⟩
            have e : σ.midx f (wordNums q m) (k + 1) = ⟨(putN σ.b f (wordNums q m) k).set (f + k) y, (setN σ.s f true k).set (f + k) true, (clrN σ.l f k).set ((f + k) / 8) .nil⟩ := by rw [HY.out]; rfl
            rw [e]
            exact X3.out
          · have hkm : k = m := by omega
            subst hkm
            have hdl : decide ((k : Int) < (k : Int)) = false := by simp
            go_wp2_with fail
            go_ret
            refine ⟨rfl, ?_, T0.out⟩
            exact H.out
      · skip
        rw [hno] at hp1
        have hp1 : (pv.sort == 1) = false := hp1
        have HH := hide (And.intro hu hpv)
        have HF := hide hf
        have hhv := hv
        by_cases h8 : n = 8 ∧ f % 8 = 0
        · obtain ⟨rfl, h8⟩ := h8
          have hr : σ.store a 8 u = (σ.spill f u, 0) := by unfold Stk.store; rw [if_neg (by simp [hi]), if_neg (by simp [his]), hno]; simp only []; rw [if_pos ⟨trivial, by omega⟩, hft]
          rw [hr]
          have hfm : f + 8 ≤ 128 := by omega
          have hw3 : ((f : Int).tmod 8 != 0) = false := by rw [(tmod8 f).2 (by omega)]; rfl
          have hf8i : (f : Int) % 8 = 0 := by omega
          have hdv : (8 : Int) ∣ (f : Int) := by omega
          have hq1 : (f : Int) / 8 < 16 := by omega
          have HIS := hide his
          have HU := hide hpv
          clear hr hpv hu hv hi hn ha0 ha1 hf hft his hhv hno
          go_enter Try.func19, Try.ntmps19
          go_wp2_with fail
          rw [← HW0.out]
          refine (HC.out w0).mono ?_
          rintro e w1 ⟨rfl, hb⟩
          have H := hide (H.out.below hb)
          have HB := hide (HB.out.below hb HB.out.lt)
          have B0 := hide (below_on B0.out hb)
          clear hb
          have g0 : w1.cell? ⟨w.heap.size, 0, none⟩ = some (.int .u8 v.sort) := HB.out.cell 0
          have f0 := HB.out.free 0
          have g1 : w1.cell? ⟨w.heap.size, 1, none⟩ = some (.int .u64 v.n) := HB.out.cell 1
          have f1 := HB.out.free 1
          have g2 : w1.cell? ⟨w.heap.size, 2, none⟩ = some (.int .i64 v.a) := HB.out.cell 2
          have f2 := HB.out.free 2
          have g3 : w1.cell? ⟨w.heap.size, 3, none⟩ = some (.int .i64 v.b) := HB.out.cell 3
          have f3 := HB.out.free 3
          have g4 : w1.cell? ⟨w.heap.size, 4, none⟩ = some (.int .i64 v.off) := HB.out.cell 4
          have f4 := HB.out.free 4
          have g5 : w1.cell? ⟨w.heap.size, 5, none⟩ = some (.int .u64 v.gen) := HB.out.cell 5
          have f5 := HB.out.free 5
          simp only [V22.agg]
          go_wp2_with fail
          have HB6 := hide (show Has ((((((w1.setCell ⟨w.heap.size, 0, none⟩ (.int .u8 pv.sort)).setCell ⟨w.heap.size, 1, none⟩ (.int .u64 pv.n)).setCell ⟨w.heap.size, 2, none⟩ (.int .i64 pv.a)).setCell ⟨w.heap.size, 3, none⟩ (.int .i64 pv.b)).setCell ⟨w.heap.size, 4, none⟩ (.int .i64 pv.off)).setCell ⟨w.heap.size, 5, none⟩ (.int .u64 pv.gen)) w.heap.size 25 #[.int .u8 pv.sort, .int .u64 pv.n, .int .i64 pv.a, .int .i64 pv.b, .int .i64 pv.off, .int .u64 pv.gen] from by
            have := (((((HB.out.set 0 (.int .u8 pv.sort)).set 1 (.int .u64 pv.n)).set 2 (.int .i64 pv.a)).set 3 (.int .i64 pv.b)).set 4 (.int .i64 pv.off)).set 5 (.int .u64 pv.gen)
            simpa using this)
          have HT6 := hide (show Turned (fun k => k = w.heap.size) w1 ((((((w1.setCell ⟨w.heap.size, 0, none⟩ (.int .u8 pv.sort)).setCell ⟨w.heap.size, 1, none⟩ (.int .u64 pv.n)).setCell ⟨w.heap.size, 2, none⟩ (.int .i64 pv.a)).setCell ⟨w.heap.size, 3, none⟩ (.int .i64 pv.b)).setCell ⟨w.heap.size, 4, none⟩ (.int .i64 pv.off)).setCell ⟨w.heap.size, 5, none⟩ (.int .u64 pv.gen)) from
            ((((((Turned.refl (fun k => k = w.heap.size) w1).set (p := ⟨w.heap.size, 0, none⟩) (fun _ => rfl) _).set (p := ⟨w.heap.size, 1, none⟩) (fun _ => rfl) _).set (p := ⟨w.heap.size, 2, none⟩) (fun _ => rfl) _).set (p := ⟨w.heap.size, 3, none⟩) (fun _ => rfl) _).set (p := ⟨w.heap.size, 4, none⟩) (fun _ => rfl) _).set (p := ⟨w.heap.size, 5, none⟩) (fun _ => rfl) _)
          clear g0 g1 g2 g3 g4 g5 f0 f1 f2 f3 f4 f5
          obtain ⟨w6, hw6⟩ : ∃ w6, w6 = (((((w1.setCell ⟨w.heap.size, 0, none⟩ (.int .u8 pv.sort)).setCell ⟨w.heap.size, 1, none⟩ (.int .u64 pv.n)).setCell ⟨w.heap.size, 2, none⟩ (.int .i64 pv.a)).setCell ⟨w.heap.size, 3, none⟩ (.int .i64 pv.b)).setCell ⟨w.heap.size, 4, none⟩ (.int .i64 pv.off)).setCell ⟨w.heap.size, 5, none⟩ (.int .u64 pv.gen) := ⟨_, rfl⟩
          rw [← hw6] at HB6 HT6
          rw [← hw6]
          clear hw6
          have H := hide (H.out.turned HT6.out hne1)
          have B0 := hide (B0.out.trans (HT6.out.below B0.out.size (fun k hk => by omega)))
          have HB := HB6
          clear HB6 HT6
          refine (C2.out _).mono ?_
          rintro e w7 ⟨rfl, rfl⟩
          have g0 : w6.cell? ⟨w.heap.size, 0, none⟩ = some (.int .u8 pv.sort) := HB.out.cell 0
          have g1 : w6.cell? ⟨w.heap.size, 1, none⟩ = some (.int .u64 pv.n) := HB.out.cell 1
          have g2 : w6.cell? ⟨w.heap.size, 2, none⟩ = some (.int .i64 pv.a) := HB.out.cell 2
          have g3 : w6.cell? ⟨w.heap.size, 3, none⟩ = some (.int .i64 pv.b) := HB.out.cell 3
          have g4 : w6.cell? ⟨w.heap.size, 4, none⟩ = some (.int .i64 pv.off) := HB.out.cell 4
          have g5 : w6.cell? ⟨w.heap.size, 5, none⟩ = some (.int .u64 pv.gen) := HB.out.cell 5
          have hs := H.out.cslot (k := f / 8) (by omega)
          generalize (σ.slot (f / 8)).plain = sv at hs
          rw [Nat.mul_comm 6] at hs
          obtain ⟨P, hP⟩ : ∃ P, 256 + f / 8 * 6 = P := ⟨_, rfl⟩
          rw [hP] at hs
          have c0 : w6.cell? ⟨x, P, none⟩ = some (.int .u8 sv.sort) := hs 0 _ rfl
          have c1 : w6.cell? ⟨x, P + 1, none⟩ = some (.int .u64 sv.n) := hs 1 _ rfl
          have c2 : w6.cell? ⟨x, P + 2, none⟩ = some (.int .i64 sv.a) := hs 2 _ rfl
          have c3 : w6.cell? ⟨x, P + 3, none⟩ = some (.int .i64 sv.b) := hs 3 _ rfl
          have c4 : w6.cell? ⟨x, P + 4, none⟩ = some (.int .i64 sv.off) := hs 4 _ rfl
          have c5 : w6.cell? ⟨x, P + 5, none⟩ = some (.int .u64 sv.gen) := hs 5 _ rfl
          have e0 := H.out.free P
          have e1 := H.out.free (P + 1)
          have e2 := H.out.free (P + 2)
          have e3 := H.out.free (P + 3)
          have e4 := H.out.free (P + 4)
          have e5 := H.out.free (P + 5)
          clear hs
          go_wp2_with fail
          go_region
          obtain ⟨W1, hW1⟩ : ∃ W1, W1 = ((((((w6.setCell ⟨x, P, none⟩ (.int .u8 pv.sort)).setCell ⟨x, P + 1, none⟩ (.int .u64 pv.n)).setCell ⟨x, P + 2, none⟩ (.int .i64 pv.a)).setCell ⟨x, P + 3, none⟩ (.int .i64 pv.b)).setCell ⟨x, P + 4, none⟩ (.int .i64 pv.off)).setCell ⟨x, P + 5, none⟩ (.int .u64 pv.gen)) := ⟨_, rfl⟩
          have X1 := H.out.setL (k := f / 8) (by omega) u (.inr HIS.out)
          rw [hP, ← HU.out] at X1
          have X1 := hide (show XtkIs W1.drew x _ by rw [hW1]; exact X1.drew)
          have T1 := hide (show Turned (fun k => k = x) w W1.drew by
            rw [hW1]
            exact ((((((Turned.of_below (S := fun k => k = x) B0.out).set (p := ⟨x, P, none⟩) (fun _ => rfl) _).set (p := ⟨x, P + 1, none⟩) (fun _ => rfl) _).set (p := ⟨x, P + 2, none⟩) (fun _ => rfl) _).set (p := ⟨x, P + 3, none⟩) (fun _ => rfl) _).set (p := ⟨x, P + 4, none⟩) (fun _ => rfl) _).set (p := ⟨x, P + 5, none⟩) (fun _ => rfl) _ |>.drew)
          rw [← hW1]
          clear hW1 c0 c1 c2 c3 c4 c5 e0 e1 e2 e3 e4 e5 hP hq1 g0 g1 g2 g3 g4 g5 HB
          go_wp2_with fail
          go_loopw [10] (fun i wr => ∃ (k : Nat), k ≤ 8 ∧ i = .int .i64 ((f + k : Nat) : Int) ∧ XtkIs wr x ⟨σ.b, setN σ.s f false k, σ.l.set (f / 8) u⟩ ∧ Turned (fun k => k = x) w wr) (fun i _ => f + 8 - (intOf i).toNat)
          case atStart => exact ⟨0, by omega, rfl, X1.out, T1.out⟩
          case round =>
            clear X1 T1 H B0
            obtain ⟨k, hk, rfl, hX, hT⟩ := hrel
            have H := hide hX
            have T0 := hide hT
            clear hX hT
            have hfki : ((f + k : Nat) : Int) = (f : Int) + (k : Int) := by omega
            obtain ⟨j, hj⟩ : ∃ j, j = f + k := ⟨_, rfl⟩
            rw [← hj] at hfki ⊢
            have HFK := hide hfki
            have HJ := hide hj
            have hjw : IntKind.i64.wrap ((j : Int) + 1) = (j : Int) + 1 := wrap_i64 (by omega) (by omega)
            by_cases hlt : k < 8
            · have hki : (j : Int) < (f : Int) + 8 := by omega
              have hd : decide ((j : Int) < (f : Int) + 8) = true := decide_eq_true hki
              have hji : (j : Int) < 128 := by omega
              have hjn : j < 128 := by omega
              have hcs := H.out.cset hjn
              have hfs := H.out.free (128 + j)
              have X3 := hide (H.out.setS hjn false)
              have T3 := hide (T0.out.set (p := ⟨x, 128 + j, none⟩) (fun _ => rfl) (.bool false))
              clear hfki hj
              go_wp2_with fail
              refine ⟨⟨k + 1, by omega, by have := HFK.out; simp; omega, ?_, T3.out⟩, by simp [intOf]; omega⟩
              have e : setN σ.s f false (k + 1) = (setN σ.s f false k).set j false := by rw [HJ.out]; rfl
              rw [e]
              exact X3.out
            · have hk8 : k = 8 := by omega
              subst hk8
              have hd : decide ((j : Int) < (f : Int) + 8) = false := decide_eq_false (by omega)
              have hji : ¬ ((j : Int) < (f : Int) + 8) := by omega
              clear hfki hj
              go_wp2_with fail
              go_ret
              exact ⟨rfl, H.out, T0.out⟩
        · have hr : σ.store a n u = (σ, 221) := by unfold Stk.store; rw [if_neg (by simp [hi]), if_neg (by simp [his]), hno]; simp only []; rw [if_neg (by omega)]
          rw [hr]
          have h8i : ((n == 8) = false ∧ ¬ n = 8) ∨ (n = 8 ∧ ((f : Int) % 8 == 0) = false ∧ ¬ (f : Int) % 8 = 0 ∧ ¬ (8 : Int) ∣ (f : Int)) := by
            by_cases e : n = 8
            · refine .inr ⟨e, ?_, ?_, ?_⟩
              · rw [beq_eq_false_iff_ne]; omega
              · omega
              · omega
            · exact .inl ⟨by simp [e], e⟩
          clear hr hpv hu hv hi hn ha0 ha1 hf hft his hhv hno h8
          rcases h8i with ⟨h8, h9⟩ | ⟨rfl, h9, h10, h11⟩
          · skip
            go_enter Try.func19, Try.ntmps19
            go_wp2_with fail
            rw [← HW0.out]
            refine (HC.out w0).mono ?_
            rintro e w1 ⟨rfl, hb⟩
            have H := hide (H.out.below hb)
            have HB := hide (HB.out.below hb HB.out.lt)
            have B0 := hide (below_on B0.out hb)
            clear hb
            have g0 : w1.cell? ⟨w.heap.size, 0, none⟩ = some (.int .u8 v.sort) := HB.out.cell 0
            have f0 := HB.out.free 0
            have g1 : w1.cell? ⟨w.heap.size, 1, none⟩ = some (.int .u64 v.n) := HB.out.cell 1
            have f1 := HB.out.free 1
            have g2 : w1.cell? ⟨w.heap.size, 2, none⟩ = some (.int .i64 v.a) := HB.out.cell 2
            have f2 := HB.out.free 2
            have g3 : w1.cell? ⟨w.heap.size, 3, none⟩ = some (.int .i64 v.b) := HB.out.cell 3
            have f3 := HB.out.free 3
            have g4 : w1.cell? ⟨w.heap.size, 4, none⟩ = some (.int .i64 v.off) := HB.out.cell 4
            have f4 := HB.out.free 4
            have g5 : w1.cell? ⟨w.heap.size, 5, none⟩ = some (.int .u64 v.gen) := HB.out.cell 5
            have f5 := HB.out.free 5
            simp only [V22.agg]
            go_wp2_with fail
            have HB6 := hide (show Has ((((((w1.setCell ⟨w.heap.size, 0, none⟩ (.int .u8 pv.sort)).setCell ⟨w.heap.size, 1, none⟩ (.int .u64 pv.n)).setCell ⟨w.heap.size, 2, none⟩ (.int .i64 pv.a)).setCell ⟨w.heap.size, 3, none⟩ (.int .i64 pv.b)).setCell ⟨w.heap.size, 4, none⟩ (.int .i64 pv.off)).setCell ⟨w.heap.size, 5, none⟩ (.int .u64 pv.gen)) w.heap.size 25 #[.int .u8 pv.sort, .int .u64 pv.n, .int .i64 pv.a, .int .i64 pv.b, .int .i64 pv.off, .int .u64 pv.gen] from by
              have := (((((HB.out.set 0 (.int .u8 pv.sort)).set 1 (.int .u64 pv.n)).set 2 (.int .i64 pv.a)).set 3 (.int .i64 pv.b)).set 4 (.int .i64 pv.off)).set 5 (.int .u64 pv.gen)
              simpa using this)
            have HT6 := hide (show Turned (fun k => k = w.heap.size) w1 ((((((w1.setCell ⟨w.heap.size, 0, none⟩ (.int .u8 pv.sort)).setCell ⟨w.heap.size, 1, none⟩ (.int .u64 pv.n)).setCell ⟨w.heap.size, 2, none⟩ (.int .i64 pv.a)).setCell ⟨w.heap.size, 3, none⟩ (.int .i64 pv.b)).setCell ⟨w.heap.size, 4, none⟩ (.int .i64 pv.off)).setCell ⟨w.heap.size, 5, none⟩ (.int .u64 pv.gen)) from
              ((((((Turned.refl (fun k => k = w.heap.size) w1).set (p := ⟨w.heap.size, 0, none⟩) (fun _ => rfl) _).set (p := ⟨w.heap.size, 1, none⟩) (fun _ => rfl) _).set (p := ⟨w.heap.size, 2, none⟩) (fun _ => rfl) _).set (p := ⟨w.heap.size, 3, none⟩) (fun _ => rfl) _).set (p := ⟨w.heap.size, 4, none⟩) (fun _ => rfl) _).set (p := ⟨w.heap.size, 5, none⟩) (fun _ => rfl) _)
            clear g0 g1 g2 g3 g4 g5 f0 f1 f2 f3 f4 f5
            obtain ⟨w6, hw6⟩ : ∃ w6, w6 = (((((w1.setCell ⟨w.heap.size, 0, none⟩ (.int .u8 pv.sort)).setCell ⟨w.heap.size, 1, none⟩ (.int .u64 pv.n)).setCell ⟨w.heap.size, 2, none⟩ (.int .i64 pv.a)).setCell ⟨w.heap.size, 3, none⟩ (.int .i64 pv.b)).setCell ⟨w.heap.size, 4, none⟩ (.int .i64 pv.off)).setCell ⟨w.heap.size, 5, none⟩ (.int .u64 pv.gen) := ⟨_, rfl⟩
            rw [← hw6] at HB6 HT6
            rw [← hw6]
            clear hw6
            have H := hide (H.out.turned HT6.out hne1)
            have B0 := hide (B0.out.trans (HT6.out.below B0.out.size (fun k hk => by omega)))
            have HB := HB6
            clear HB6 HT6
            refine (C2.out _).mono ?_
            rintro e w7 ⟨rfl, rfl⟩
            have g0 : w6.cell? ⟨w.heap.size, 0, none⟩ = some (.int .u8 pv.sort) := HB.out.cell 0
            have g1 : w6.cell? ⟨w.heap.size, 1, none⟩ = some (.int .u64 pv.n) := HB.out.cell 1
            have g2 : w6.cell? ⟨w.heap.size, 2, none⟩ = some (.int .i64 pv.a) := HB.out.cell 2
            have g3 : w6.cell? ⟨w.heap.size, 3, none⟩ = some (.int .i64 pv.b) := HB.out.cell 3
            have g4 : w6.cell? ⟨w.heap.size, 4, none⟩ = some (.int .i64 pv.off) := HB.out.cell 4
            have g5 : w6.cell? ⟨w.heap.size, 5, none⟩ = some (.int .u64 pv.gen) := HB.out.cell 5
            go_wp2_with fail
            go_ret
            exact ⟨rfl, H.out, Turned.of_below B0.out⟩
          · skip
            go_enter Try.func19, Try.ntmps19
            go_wp2_with fail
            rw [← HW0.out]
            refine (HC.out w0).mono ?_
            rintro e w1 ⟨rfl, hb⟩
            have H := hide (H.out.below hb)
            have HB := hide (HB.out.below hb HB.out.lt)
            have B0 := hide (below_on B0.out hb)
            clear hb
            have g0 : w1.cell? ⟨w.heap.size, 0, none⟩ = some (.int .u8 v.sort) := HB.out.cell 0
            have f0 := HB.out.free 0
            have g1 : w1.cell? ⟨w.heap.size, 1, none⟩ = some (.int .u64 v.n) := HB.out.cell 1
            have f1 := HB.out.free 1
            have g2 : w1.cell? ⟨w.heap.size, 2, none⟩ = some (.int .i64 v.a) := HB.out.cell 2
            have f2 := HB.out.free 2
            have g3 : w1.cell? ⟨w.heap.size, 3, none⟩ = some (.int .i64 v.b) := HB.out.cell 3
            have f3 := HB.out.free 3
            have g4 : w1.cell? ⟨w.heap.size, 4, none⟩ = some (.int .i64 v.off) := HB.out.cell 4
            have f4 := HB.out.free 4
            have g5 : w1.cell? ⟨w.heap.size, 5, none⟩ = some (.int .u64 v.gen) := HB.out.cell 5
            have f5 := HB.out.free 5
            simp only [V22.agg]
            go_wp2_with fail
            have HB6 := hide (show Has ((((((w1.setCell ⟨w.heap.size, 0, none⟩ (.int .u8 pv.sort)).setCell ⟨w.heap.size, 1, none⟩ (.int .u64 pv.n)).setCell ⟨w.heap.size, 2, none⟩ (.int .i64 pv.a)).setCell ⟨w.heap.size, 3, none⟩ (.int .i64 pv.b)).setCell ⟨w.heap.size, 4, none⟩ (.int .i64 pv.off)).setCell ⟨w.heap.size, 5, none⟩ (.int .u64 pv.gen)) w.heap.size 25 #[.int .u8 pv.sort, .int .u64 pv.n, .int .i64 pv.a, .int .i64 pv.b, .int .i64 pv.off, .int .u64 pv.gen] from by
              have := (((((HB.out.set 0 (.int .u8 pv.sort)).set 1 (.int .u64 pv.n)).set 2 (.int .i64 pv.a)).set 3 (.int .i64 pv.b)).set 4 (.int .i64 pv.off)).set 5 (.int .u64 pv.gen)
              simpa using this)
            have HT6 := hide (show Turned (fun k => k = w.heap.size) w1 ((((((w1.setCell ⟨w.heap.size, 0, none⟩ (.int .u8 pv.sort)).setCell ⟨w.heap.size, 1, none⟩ (.int .u64 pv.n)).setCell ⟨w.heap.size, 2, none⟩ (.int .i64 pv.a)).setCell ⟨w.heap.size, 3, none⟩ (.int .i64 pv.b)).setCell ⟨w.heap.size, 4, none⟩ (.int .i64 pv.off)).setCell ⟨w.heap.size, 5, none⟩ (.int .u64 pv.gen)) from
              ((((((Turned.refl (fun k => k = w.heap.size) w1).set (p := ⟨w.heap.size, 0, none⟩) (fun _ => rfl) _).set (p := ⟨w.heap.size, 1, none⟩) (fun _ => rfl) _).set (p := ⟨w.heap.size, 2, none⟩) (fun _ => rfl) _).set (p := ⟨w.heap.size, 3, none⟩) (fun _ => rfl) _).set (p := ⟨w.heap.size, 4, none⟩) (fun _ => rfl) _).set (p := ⟨w.heap.size, 5, none⟩) (fun _ => rfl) _)
            clear g0 g1 g2 g3 g4 g5 f0 f1 f2 f3 f4 f5
            obtain ⟨w6, hw6⟩ : ∃ w6, w6 = (((((w1.setCell ⟨w.heap.size, 0, none⟩ (.int .u8 pv.sort)).setCell ⟨w.heap.size, 1, none⟩ (.int .u64 pv.n)).setCell ⟨w.heap.size, 2, none⟩ (.int .i64 pv.a)).setCell ⟨w.heap.size, 3, none⟩ (.int .i64 pv.b)).setCell ⟨w.heap.size, 4, none⟩ (.int .i64 pv.off)).setCell ⟨w.heap.size, 5, none⟩ (.int .u64 pv.gen) := ⟨_, rfl⟩
            rw [← hw6] at HB6 HT6
            rw [← hw6]
            clear hw6
            have H := hide (H.out.turned HT6.out hne1)
            have B0 := hide (B0.out.trans (HT6.out.below B0.out.size (fun k hk => by omega)))
            have HB := HB6
            clear HB6 HT6
            refine (C2.out _).mono ?_
            rintro e w7 ⟨rfl, rfl⟩
            have g0 : w6.cell? ⟨w.heap.size, 0, none⟩ = some (.int .u8 pv.sort) := HB.out.cell 0
            have g1 : w6.cell? ⟨w.heap.size, 1, none⟩ = some (.int .u64 pv.n) := HB.out.cell 1
            have g2 : w6.cell? ⟨w.heap.size, 2, none⟩ = some (.int .i64 pv.a) := HB.out.cell 2
            have g3 : w6.cell? ⟨w.heap.size, 3, none⟩ = some (.int .i64 pv.b) := HB.out.cell 3
            have g4 : w6.cell? ⟨w.heap.size, 4, none⟩ = some (.int .i64 pv.off) := HB.out.cell 4
            have g5 : w6.cell? ⟨w.heap.size, 5, none⟩ = some (.int .u64 pv.gen) := HB.out.cell 5
            go_wp2_with fail
            go_ret
            exact ⟨rfl, H.out, Turned.of_below B0.out⟩

end Go.Proofs.Ytcddpmiandgkjaa
