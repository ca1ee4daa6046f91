import Derived.Test.YtcddpmiandgkjaaStkX
/-! Package stack: the document's answer (wardenref23): Spilled, read, Bytes, Load. -/
namespace Go.Proofs.Ytcddpmiandgkjaa
open Go.RowKit Go.Maps Go.Lib Go.Deep
set_option maxHeartbeats 2000000
set_option maxRecDepth 100000
set_option linter.unusedSimpArgs false
set_option linter.unusedVariables false

theorem xtk_spAt (w : World) (x : Nat) (σ : Stk) (h : XtkIs w x σ) (a : Int) :
    Calls Try.prog 50 #[.pointer (some ⟨x, 0, none⟩), .int .i64 a] w fun e w' => e = .returned (σ.spAt a).plain.agg ∧ Below w.heap.size w w' := by
  by_cases h1 : -128 ≤ a
  · have E1 : decide (a < -128) = false := decide_eq_false (by omega)
    by_cases h2 : a < 0
    · have E2 : decide (0 ≤ a) = false := decide_eq_false (by omega)
      by_cases h3 : a % 8 = 0
      · have E3 : (a.tmod 8 != 0) = false := by rw [(tmod8 a).2 h3]; rfl
        obtain ⟨f, hf⟩ : ∃ f : Nat, a + 128 = f := ⟨(a + 128).toNat, by omega⟩
        have hw : IntKind.i64.wrap (a + 128) = (f : Int) := by rw [wrap_i64 (by omega) (by omega)]; exact hf
        have hr : σ.spAt a = σ.slot (f / 8) := by
          unfold Stk.spAt
          rw [if_pos ⟨h1, h2, h3⟩, hf]
          congr 1
        rw [hr]
        have hfi : f < 128 := by omega
        have hc := h.cslot (k := f / 8) (by omega)
        have hlx := h.lt
        generalize (σ.slot (f / 8)).plain = pv at *
        have A : ∀ j v, pv.cells[j]? = some v → (w.alloc (.cells #[.int .u8 0, .int .u64 0, .int .i64 0, .int .i64 0, .int .i64 0, .int .u64 0] 25)).cell? ⟨x, 256 + f / 8 * 6 + j, none⟩ = some v := fun j v hv => by
          rw [World.cell?_alloc_lt _ _ _ (show (⟨x, 256 + f / 8 * 6 + j, none⟩ : Addr).block < w.heap.size from hlx), Nat.mul_comm]
          exact hc j v hv
        have c0 : (w.alloc (.cells #[.int .u8 0, .int .u64 0, .int .i64 0, .int .i64 0, .int .i64 0, .int .u64 0] 25)).cell? ⟨x, 256 + f / 8 * 6, none⟩ = some (.int .u8 pv.sort) := A 0 _ rfl
        have c1 := A 1 _ rfl
        have c2 := A 2 _ rfl
        have c3 := A 3 _ rfl
        have c4 := A 4 _ rfl
        have c5 := A 5 _ rfl
        have HF := hide hf
        clear hr hf h A hc
        go_enter Try.func50, Try.ntmps50
        go_wp2_with fail
        go_returns
        exact ⟨rfl, by go_grown⟩
      · have E3 : (a.tmod 8 != 0) = true := by simp; exact fun h => h3 ((tmod8 a).1 h)
        have hr : σ.spAt a = .nil := if_neg (fun h => h3 h.2.2)
        rw [hr]
        clear hr h
        go_enter Try.func50, Try.ntmps50
        go_wp2_with fail
        go_returns
        exact ⟨rfl, by go_grown⟩
    · have E2 : decide (0 ≤ a) = true := decide_eq_true (by omega)
      have hr : σ.spAt a = .nil := if_neg (fun h => h2 h.2.1)
      rw [hr]
      clear hr h
      go_enter Try.func50, Try.ntmps50
      go_wp2_with fail
      go_returns
      exact ⟨rfl, by go_grown⟩
  · have E1 : decide (a < -128) = true := decide_eq_true (by omega)
    have hr : σ.spAt a = .nil := if_neg (fun h => h1 h.1)
    rw [hr]
    clear hr h
    go_enter Try.func50, Try.ntmps50
    go_wp2_with fail
    go_returns
    exact ⟨rfl, by go_grown⟩

theorem text_next (σ : Stk) (h : σ.ok) (f k : Nat) (hk : f + k < 128) : σ.text f k ++ strOfNums [σ.b.getD (f + k) 0] = σ.text f (k + 1) := by
  unfold Stk.text
  rw [strOfNums_append]
  congr 1
  rw [List.take_add_one, List.getElem?_drop, List.getD_eq_getElem?_getD, List.getElem?_eq_getElem (by rw [h.b]; omega)]
  rfl

theorem xtk_read (w : World) (x : Nat) (σ : Stk) (h : XtkIs w x σ) (f n : Nat) (hfn : f + n ≤ 128) :
    Calls Try.prog 47 #[.pointer (some ⟨x, 0, none⟩), .int .i64 (f : Int), .int .i64 (n : Int)] w fun e w' => e = .returned (.tuple #[.string (σ.read f n).1, .int .i64 (σ.read f n).2]) ∧ Below w.heap.size w w' := by
  have H := hide h
  have hlt0 := h.lt
  clear h
  go_enter Try.func47, Try.ntmps47
  go_wp2_with fail
  go_loopw [8] (fun i wr => ∃ k : Nat, k ≤ n ∧ i = .int .i64 ((f + k : Nat) : Int) ∧ σ.anySp f k = false ∧ wr = w) (fun i _ => f + n - (intOf i).toNat)
  case atStart => exact ⟨0, Nat.zero_le _, rfl, rfl, rfl⟩
  case round =>
    obtain ⟨k, hk, rfl, hno, rfl⟩ := hrel
    have hfki : ((f + k : Nat) : Int) = (f : Int) + (k : Int) := by omega
    obtain ⟨j, hj⟩ : ∃ j, j = f + k := ⟨_, rfl⟩
    rw [← hj] at hfki ⊢
    have HFK := hide hfki
    have hjw : IntKind.i64.wrap ((j : Int) + 1) = (j : Int) + 1 := wrap_i64 (by omega) (by omega)
    by_cases hlt : k < n
    · have hki : (j : Int) < (f : Int) + (n : Int) := by omega
      have hd : decide ((j : Int) < (f : Int) + (n : Int)) = true := decide_eq_true hki
      have hsl := xtk_spilled wr x σ H.out (j / 8) (by omega)
      rw [show ((j / 8 : Nat) : Int) = (j : Int) / 8 by omega] at hsl
      have HNO := hide hno
      have HJ := hide hj
      obtain ⟨v, hv⟩ : ∃ v, v = (σ.slot (j / 8)).no := ⟨_, rfl⟩
      rw [← hv] at hsl
      have HV := hide hv
      have hsl := hide hsl
      have hji : (j : Int) < 128 := by omega
      clear hno hj hv hfki
      cases v with
      | true =>
        go_wp2_with fail
        refine hsl.out.mono ?_
        rintro e w1 ⟨rfl, rfl⟩
        go_wp2_with fail
        exact ⟨⟨k + 1, by omega, by have := HFK.out; simp; omega, by unfold Stk.anySp; rw [HNO.out, ← HJ.out, ← HV.out]; rfl, trivial⟩, by simp [intOf]; omega⟩
      | false =>
        have hr : σ.read f n = (⟨#[]⟩, 221) := by unfold Stk.read; rw [if_pos (Stk.anySp_of hlt (by rw [← HJ.out, ← HV.out]))]
        have HR := hide hr
        clear hr
        go_wp2_with fail
        refine hsl.out.mono ?_
        rintro e w1 ⟨rfl, rfl⟩
        go_wp2_with fail
        go_returns
        exact ⟨by rw [HR.out]; rfl, Below.refl _ _⟩
    · have hkn : k = n := by omega
      subst hkn
      have hd : decide ((j : Int) < (f : Int) + (k : Int)) = false := decide_eq_false (by omega)
      have HNO := hide hno
      clear hno hfki hj
      go_wp2_with fail
      clear hd hk hlt HFK hjw
      go_loopw [9, 10] (fun t i wr2 => ∃ k2 : Nat, k2 ≤ k ∧ i = .int .i64 ((f + k2 : Nat) : Int) ∧ t = .string (σ.text f k2) ∧ σ.allSet f k2 = true ∧ Below wr.heap.size wr wr2) (fun _ i _ => f + k - (intOf i).toNat)
      case atStart => exact ⟨0, Nat.zero_le _, rfl, by unfold Stk.text; rw [List.take_zero]; rfl, rfl, Below.refl _ _⟩
      case round =>
        obtain ⟨k2, hk, rfl, rfl, hall, hB⟩ := hrel
        have H2 := hide (H.out.below hB)
        have B2 := hide hB
        have hfki : ((f + k2 : Nat) : Int) = (f : Int) + (k2 : Int) := by omega
        obtain ⟨j2, hj⟩ : ∃ j2, j2 = f + k2 := ⟨_, rfl⟩
        rw [← hj] at hfki ⊢
        have HFK := hide hfki
        have hjw : IntKind.i64.wrap ((j2 : Int) + 1) = (j2 : Int) + 1 := wrap_i64 (by omega) (by omega)
        have HALL := hide hall
        clear hB hall
        by_cases hlt : k2 < k
        · have hki : (j2 : Int) < (f : Int) + (k : Int) := by omega
          have hd : decide ((j2 : Int) < (f : Int) + (k : Int)) = true := decide_eq_true hki
          have hc := H2.out.cset (j := j2) (by omega)
          have hcb := H2.out.cbyte (j := j2) (by omega)
          have hji : (j2 : Int) < 128 := by omega
          have hjn : j2 < 128 := by omega
          have htn := text_next σ H2.out.ok f k2 (by omega)
          rw [← hj] at htn
          have HJ := hide hj
          obtain ⟨v, hv⟩ : ∃ v, v = σ.s.getD j2 false := ⟨_, rfl⟩
          rw [← hv] at hc
          have HV := hide hv
          clear hj hv hfki
          cases v with
          | false =>
            have hr : σ.read f k = (⟨#[]⟩, 220) := by
              unfold Stk.read
              rw [if_neg (by rw [HNO.out]; simp), if_neg (by rw [Stk.allSet_of hlt (by rw [Stk.isSet, ← HJ.out, ← HV.out])]; simp)]
            have HR := hide hr
            clear hr
            go_wp2_with fail
            go_returns
            exact ⟨by rw [HR.out]; rfl, B2.out⟩
          | true =>
            obtain ⟨y, hy⟩ : ∃ y, y = σ.b.getD j2 0 := ⟨_, rfl⟩
            rw [← hy] at hcb htn
            have hconv := conv_one (wr.alloc (.cells #[.int .u8 y] 5)) wr.heap.size y ((Has.new wr 5 #[.int .u8 y]).cell 0)
            obtain ⟨T1, hT1⟩ : ∃ T1, T1 = σ.text f k2 := ⟨_, rfl⟩
            obtain ⟨T2, hT2⟩ : ∃ T2, T2 = strOfNums [y] := ⟨_, rfl⟩
            rw [← hT1, ← hT2] at htn
            rw [← hT1]
            rw [← hT2] at hconv
            have htz : T1.size + T2.size ≤ 200 := by
              have h1 : T1.size ≤ 128 := by rw [hT1]; unfold Stk.text; rw [strOfNums_size_, List.length_take]; omega
              have h2 : T2.size = 1 := by rw [hT2, strOfNums_size_]; rfl
              omega
            have htz2 : ¬ 9223372036854775807 < T1.size + T2.size := by omega
            have HTN := hide htn
            have HH := hide (And.intro hy (And.intro hT1 hT2))
            have B3 := hide (B2.out.alloc B2.out.size (.cells #[.int .u8 y] 5))
            clear hy hT1 hT2 htn
            go_wp2_with fail
            exact ⟨⟨k2 + 1, by omega, by have := HFK.out; simp; omega, by rw [HTN.out], by show (σ.allSet f k2 && σ.isSet (f + k2)) = true; rw [HALL.out, ← HJ.out, Stk.isSet, ← HV.out]; rfl, B3.out⟩, by simp [intOf]; omega⟩
        · have hkn : k2 = k := by omega
          subst hkn
          have hd : decide ((j2 : Int) < (f : Int) + (k2 : Int)) = false := decide_eq_false (by omega)
          have hr : σ.read f k2 = (σ.text f k2, 0) := by
            unfold Stk.read
            rw [if_neg (by rw [HNO.out]; simp), if_pos HALL.out]
          have HR := hide hr
          clear hr hfki hj
          go_wp2_with fail
          go_returns
          exact ⟨by rw [HR.out]; rfl, B2.out⟩

theorem xtk_bytes (w : World) (x : Nat) (σ : Stk) (h : XtkIs w x σ) (a n : Int) :
    Calls Try.prog 22 #[.pointer (some ⟨x, 0, none⟩), .int .i64 a, .int .i64 n] w fun e w' => e = .returned (.tuple #[.string (σ.bytesAt a n).1, .int .i64 (σ.bytesAt a n).2]) ∧ Below w.heap.size w w' := by
  have H := hide h
  clear h
  by_cases hn : n < 0
  · have E1 : decide (n < 0) = true := decide_eq_true hn
    have hr : σ.bytesAt a n = (⟨#[]⟩, 2) := if_pos hn
    rw [hr]
    clear hr
    go_enter Try.func22, Try.ntmps22
    go_wp2_with fail
    go_returns
    exact ⟨rfl, Below.refl _ _⟩
  · have E1 : decide (n < 0) = false := decide_eq_false hn
    by_cases h1 : a < -128
    · have E2 : decide (a < -128) = true := decide_eq_true h1
      have hr : σ.bytesAt a n = (⟨#[]⟩, 230) := by unfold Stk.bytesAt; rw [if_neg hn, if_pos (.inl h1)]
      rw [hr]
      clear hr
      go_enter Try.func22, Try.ntmps22
      go_wp2_with fail
      go_returns
      exact ⟨rfl, Below.refl _ _⟩
    · have E2 : decide (a < -128) = false := decide_eq_false h1
      by_cases h2 : 0 < a
      · have E3 : decide (0 < a) = true := decide_eq_true h2
        have hr : σ.bytesAt a n = (⟨#[]⟩, 230) := by unfold Stk.bytesAt; rw [if_neg hn, if_pos (.inr (.inl h2))]
        rw [hr]
        clear hr
        go_enter Try.func22, Try.ntmps22
        go_wp2_with fail
        go_returns
        exact ⟨rfl, Below.refl _ _⟩
      · have E3 : decide (0 < a) = false := decide_eq_false h2
        have hw : IntKind.i64.wrap (-a) = -a := wrap_i64 (by omega) (by omega)
        by_cases h3 : -a < n
        · have E4 : decide (-a < n) = true := decide_eq_true h3
          have hr : σ.bytesAt a n = (⟨#[]⟩, 230) := by unfold Stk.bytesAt; rw [if_neg hn, if_pos (.inr (.inr h3))]
          rw [hr]
          clear hr
          go_enter Try.func22, Try.ntmps22
          go_wp2_with fail
          go_returns
          exact ⟨rfl, Below.refl _ _⟩
        · have E4 : decide (-a < n) = false := decide_eq_false h3
          obtain ⟨f, hf⟩ : ∃ f : Nat, a + 128 = f := ⟨(a + 128).toNat, by omega⟩
          obtain ⟨m, rfl⟩ : ∃ m : Nat, n = m := ⟨n.toNat, by omega⟩
          have hr : σ.bytesAt a m = σ.read f m := by
            unfold Stk.bytesAt
            rw [if_neg hn, if_neg (by omega), hf]
            rfl
          rw [hr]
          have hw2 : IntKind.i64.wrap (a + 128) = (f : Int) := by rw [wrap_i64 (by omega) (by omega)]; exact hf
          have C2 := hide (xtk_read w x σ H.out f m (by omega))
          generalize σ.read f m = R at *
          have HF := hide hf
          clear hr hf
          go_enter Try.func22, Try.ntmps22
          go_wp2_with fail
          refine C2.out.mono ?_
          rintro e w1 ⟨rfl, hb⟩
          go_wp2_with fail
          go_returns
          exact ⟨rfl, hb⟩

end Go.Proofs.Ytcddpmiandgkjaa
