import Derived.Test.YtcddpmiandgkjaaStkB
/-! Package stack: Set, Spilled, Load, Bytes, of the program. -/
namespace Go.Proofs.Ytcddpmiandgkjaa
open Go.RowKit Go.Maps Go.Lib
set_option maxHeartbeats 1000000
set_option maxRecDepth 100000
set_option linter.unusedSimpArgs false
set_option linter.unusedVariables false

def Stk.setAt (σ : Stk) (a : Int) : Bool := decide (-128 ≤ a ∧ a < 0) && σ.isSet (a + 128).toNat
def Stk.spAt (σ : Stk) (a : Int) : AV := if -128 ≤ a ∧ a < 0 ∧ a % 8 = 0 then σ.slot ((a + 128) / 8).toNat else .nil

theorem tmod8 (a : Int) : a.tmod 8 = 0 ↔ a % 8 = 0 := ⟨fun h => Int.emod_eq_zero_of_dvd (Int.dvd_of_tmod_eq_zero h), fun h => Int.tmod_eq_zero_of_dvd (Int.dvd_of_emod_eq_zero h)⟩

theorem stk_set (w : World) (p mb : Nat) (σ : Stk) (h : StkIs w p mb σ) (a : Int) :
    Calls Try.prog 26 #[.pointer (some ⟨p, 0, none⟩), .int .i64 a] w fun e w' => e = .returned (.bool (σ.setAt a)) ∧ w = w' := by
  have C := hide (stk_none w p mb h.cmap)
  by_cases h1 : -128 ≤ a
  · have E1 : decide (-128 ≤ a) = true := decide_eq_true h1
    by_cases h2 : a < 0
    · have E2 : decide (a < 0) = true := decide_eq_true h2
      obtain ⟨f, hf⟩ : ∃ f : Nat, a + 128 = f := ⟨(a + 128).toNat, by omega⟩
      have hc := h.cset (j := f) (by omega)
      have hr : σ.setAt a = σ.s.getD f false := by
        unfold Stk.setAt
        rw [decide_eq_true (show -128 ≤ a ∧ a < 0 from ⟨h1, h2⟩), hf]
        rfl
      rw [hr]
      generalize σ.s.getD f false = v at *
      have hw : IntKind.i64.wrap (a + 128) = (f : Int) := by rw [wrap_i64 (by omega) (by omega)]; exact hf
      have hfi : f < 128 := by omega
      have HF := hide hf
      clear hr hf h
      go_enter Try.func26, Try.ntmps26
      go_wp2_with fail
      refine C.out.mono ?_
      rintro e w1 ⟨rfl, rfl⟩
      go_wp2_with fail
      go_ret
      exact ⟨rfl, rfl⟩
    · have E2 : decide (a < 0) = false := decide_eq_false h2
      have hr : σ.setAt a = false := by
        unfold Stk.setAt
        rw [decide_eq_false (show ¬ (-128 ≤ a ∧ a < 0) from fun h => h2 h.2)]
        rfl
      rw [hr]
      clear hr h
      go_enter Try.func26, Try.ntmps26
      go_wp2_with fail
      refine C.out.mono ?_
      rintro e w1 ⟨rfl, rfl⟩
      go_wp2_with fail
      go_ret
      exact ⟨rfl, rfl⟩
  · have E1 : decide (-128 ≤ a) = false := decide_eq_false h1
    have hr : σ.setAt a = false := by
      unfold Stk.setAt
      rw [decide_eq_false (show ¬ (-128 ≤ a ∧ a < 0) from fun h => h1 h.1)]
      rfl
    rw [hr]
    clear hr h
    go_enter Try.func26, Try.ntmps26
    go_wp2_with fail
    refine C.out.mono ?_
    rintro e w1 ⟨rfl, rfl⟩
    go_wp2_with fail
    go_ret
    exact ⟨rfl, rfl⟩

theorem stk_spilled (w : World) (p mb : Nat) (σ : Stk) (h : StkIs w p mb σ) (a : Int) :
    Calls Try.prog 27 #[.pointer (some ⟨p, 0, none⟩), .int .i64 a] w fun e w' => e = .returned (σ.spAt a).enc ∧ w = w' := by
  have C := hide (stk_none w p mb h.cmap)
  have hm := h.cmap
  by_cases h1 : -128 ≤ a
  · have E1 : decide (a < -128) = false := decide_eq_false (by omega)
    by_cases h2 : a < 0
    · have E2 : decide (0 ≤ a) = false := decide_eq_false (by omega)
      by_cases h3 : a % 8 = 0
      · have E3 : (a.tmod 8 != 0) = false := by rw [(tmod8 a).2 h3]; rfl
        obtain ⟨f, hf⟩ : ∃ f : Nat, a + 128 = f := ⟨(a + 128).toNat, by omega⟩
        have hw : IntKind.i64.wrap (a + 128) = (f : Int) := by rw [wrap_i64 (by omega) (by omega)]; exact hf
        have hg := h.get (k := f / 8) (by omega)
        rw [show ((f / 8 : Nat) : Int) = (f : Int) / 8 by omega] at hg
        have hr : σ.spAt a = σ.slot (f / 8) := by
          unfold Stk.spAt
          rw [if_pos ⟨h1, h2, h3⟩, hf]
          congr 1
        rw [hr]
        have hfi : f < 128 := by omega
        generalize σ.slot (f / 8) = v at *
        have HF := hide hf
        clear hr hf h
        go_enter Try.func27, Try.ntmps27
        go_wp2_with fail
        refine C.out.mono ?_
        rintro e w1 ⟨rfl, rfl⟩
        go_wp2_with fail
        go_ret
        exact ⟨rfl, rfl⟩
      · have E3 : (a.tmod 8 != 0) = true := by simp; exact fun h => h3 ((tmod8 a).1 h)
        have hr : σ.spAt a = .nil := if_neg (fun h => h3 h.2.2)
        rw [hr]
        clear hr h
        go_enter Try.func27, Try.ntmps27
        go_wp2_with fail
        refine C.out.mono ?_
        rintro e w1 ⟨rfl, rfl⟩
        go_wp2_with fail
        go_ret
        exact ⟨rfl, rfl⟩
    · have E2 : decide (0 ≤ a) = true := decide_eq_true (by omega)
      have hr : σ.spAt a = .nil := if_neg (fun h => h2 h.2.1)
      rw [hr]
      clear hr h
      go_enter Try.func27, Try.ntmps27
      go_wp2_with fail
      refine C.out.mono ?_
      rintro e w1 ⟨rfl, rfl⟩
      go_wp2_with fail
      go_ret
      exact ⟨rfl, rfl⟩
  · have E1 : decide (a < -128) = true := decide_eq_true (by omega)
    have hr : σ.spAt a = .nil := if_neg (fun h => h1 h.1)
    rw [hr]
    clear hr h
    go_enter Try.func27, Try.ntmps27
    go_wp2_with fail
    refine C.out.mono ?_
    rintro e w1 ⟨rfl, rfl⟩
    go_wp2_with fail
    go_ret
    exact ⟨rfl, rfl⟩


/-- What Bytes answers. -/
def Stk.bytesAt (σ : Stk) (a n : Int) : ByteArray × Int := if n < 0 then (⟨#[]⟩, 2) else if a < -128 ∨ 0 < a ∨ -a < n then (⟨#[]⟩, 230) else σ.read (a + 128).toNat n.toNat
/-- What Load answers. -/
def Stk.load (σ : Stk) (a n : Int) : AV × Int :=
  if stkIn a n = false then (.nil, 230) else
  if (σ.spAt a).no = false ∧ n = 8 then (σ.spAt a, 0) else
  if (σ.read (a + 128).toNat n.toNat).2 = 0 then (.num (wordGet (σ.read (a + 128).toNat n.toNat).1 0 n).1, 0) else (.nil, (σ.read (a + 128).toNat n.toNat).2)

theorem stk_bytes (w : World) (p mb : Nat) (σ : Stk) (h : StkIs w p mb σ) (a n : Int) :
    Calls Try.prog 21 #[.pointer (some ⟨p, 0, none⟩), .int .i64 a, .int .i64 n] w fun e w' => e = .returned (.tuple #[.string (σ.bytesAt a n).1, .int .i64 (σ.bytesAt a n).2]) ∧ Below w.heap.size w w' := by
  have C := hide (stk_none w p mb h.cmap)
  have H := hide h
  clear h
  by_cases hn : n < 0
  · have E1 : decide (n < 0) = true := decide_eq_true hn
    have hr : σ.bytesAt a n = (⟨#[]⟩, 2) := if_pos hn
    rw [hr]
    clear hr
    go_enter Try.func21, Try.ntmps21
    go_wp2_with fail
    refine C.out.mono ?_
    rintro e w1 ⟨rfl, rfl⟩
    go_wp2_with fail
    go_returns
    exact ⟨rfl, Below.refl _ _⟩
  · have E1 : decide (n < 0) = false := decide_eq_false hn
    by_cases h1 : a < -128
    · have E2 : decide (a < -128) = true := decide_eq_true h1
      have hr : σ.bytesAt a n = (⟨#[]⟩, 230) := by unfold Stk.bytesAt; rw [if_neg hn, if_pos (.inl h1)]
      rw [hr]
      clear hr
      go_enter Try.func21, Try.ntmps21
      go_wp2_with fail
      refine C.out.mono ?_
      rintro e w1 ⟨rfl, rfl⟩
      go_wp2_with fail
      go_returns
      exact ⟨rfl, Below.refl _ _⟩
    · have E2 : decide (a < -128) = false := decide_eq_false h1
      by_cases h2 : 0 < a
      · have E3 : decide (0 < a) = true := decide_eq_true h2
        have hr : σ.bytesAt a n = (⟨#[]⟩, 230) := by unfold Stk.bytesAt; rw [if_neg hn, if_pos (.inr (.inl h2))]
        rw [hr]
        clear hr
        go_enter Try.func21, Try.ntmps21
        go_wp2_with fail
        refine C.out.mono ?_
        rintro e w1 ⟨rfl, rfl⟩
        go_wp2_with fail
        go_returns
        exact ⟨rfl, Below.refl _ _⟩
      · have E3 : decide (0 < a) = false := decide_eq_false h2
        have hw : IntKind.i64.wrap (-a) = -a := wrap_i64 (by omega) (by omega)
        by_cases h3 : -a < n
        · have E4 : decide (-a < n) = true := decide_eq_true h3
          have hr : σ.bytesAt a n = (⟨#[]⟩, 230) := by unfold Stk.bytesAt; rw [if_neg hn, if_pos (.inr (.inr h3))]
          rw [hr]
          clear hr
          go_enter Try.func21, Try.ntmps21
          go_wp2_with fail
          refine C.out.mono ?_
          rintro e w1 ⟨rfl, rfl⟩
          go_wp2_with fail
          go_returns
          exact ⟨rfl, Below.refl _ _⟩
        · have E4 : decide (-a < n) = false := decide_eq_false h3
          obtain ⟨f, hf⟩ : ∃ f : Nat, a + 128 = f := ⟨(a + 128).toNat, by omega⟩
          obtain ⟨m, rfl⟩ : ∃ m : Nat, n = m := ⟨n.toNat, by omega⟩
          have hr : σ.bytesAt a m = σ.read f m := by
            unfold Stk.bytesAt
            rw [if_neg hn, if_neg (by omega), hf]
            rfl
          rw [hr]
          have hw2 : IntKind.i64.wrap (a + 128) = (f : Int) := by rw [wrap_i64 (by omega) (by omega)]; exact hf
          have C2 := hide (stk_read w p mb σ H.out f m (by omega))
          generalize σ.read f m = R at *
          have HF := hide hf
          clear hr hf
          go_enter Try.func21, Try.ntmps21
          go_wp2_with fail
          refine C.out.mono ?_
          rintro e w1 ⟨rfl, rfl⟩
          go_wp2_with fail
          refine C2.out.mono ?_
          rintro e w1 ⟨rfl, hb⟩
          go_wp2_with fail
          go_returns
          exact ⟨rfl, hb⟩

theorem load_in (σ : Stk) (a n : Int) (h : stkIn a n = true) : (n = 1 ∨ n = 2 ∨ n = 4 ∨ n = 8) ∧ -128 ≤ a ∧ a ≤ -n := of_decide_eq_true h

theorem text_size (σ : Stk) (h : σ.ok) (f n : Nat) (hfn : f + n ≤ 128) : (σ.read f n).1.size ≤ 128 := by
  unfold Stk.read
  have h0 : (⟨#[]⟩ : ByteArray).size ≤ 128 := by decide
  split
  · exact h0
  · split
    · unfold Stk.text
      rw [strOfNums_size_, List.length_take]
      omega
    · exact h0

theorem stk_load (w : World) (p mb : Nat) (σ : Stk) (h : StkIs w p mb σ) (a n : Int) :
    Calls Try.prog 15 #[.pointer (some ⟨p, 0, none⟩), .int .i64 a, .int .i64 n] w fun e w' => e = .returned (.tuple #[(σ.load a n).1.enc, .int .i64 (σ.load a n).2]) ∧ Below w.heap.size w w' := by
  have C := hide (stk_none w p mb h.cmap)
  have H := hide h
  clear h
  have C2 := stk_within w a n
  cases hi : stkIn a n with
  | false =>
    rw [hi] at C2
    have C2 := hide C2
    have hr : σ.load a n = (.nil, 230) := if_pos hi
    rw [hr]
    clear hr
    go_enter Try.func15, Try.ntmps15
    go_wp2_with fail
    refine C.out.mono ?_
    rintro e w1 ⟨rfl, rfl⟩
    go_wp2_with fail
    refine C2.out.mono ?_
    rintro e w1 ⟨rfl, hb⟩
    go_wp2_with fail
    go_returns
    exact ⟨rfl, hb⟩
  | true =>
    rw [hi] at C2
    have C2 := hide C2
    obtain ⟨hn, ha0, ha1⟩ := load_in σ a n hi
    obtain ⟨f, hf⟩ : ∃ f : Nat, a + 128 = f := ⟨(a + 128).toNat, by omega⟩
    obtain ⟨m, rfl⟩ : ∃ m : Nat, n = m := ⟨n.toNat, by omega⟩
    have hw2 : IntKind.i64.wrap (a + 128) = (f : Int) := by rw [wrap_i64 (by omega) (by omega)]; exact hf
    have C3 := hide (fun W (h : StkIs W p mb σ) => stk_spilled W p mb σ h a)
    by_cases h8 : (σ.spAt a).no = false ∧ (m : Int) = 8
    · have hr : σ.load a m = (σ.spAt a, 0) := by unfold Stk.load; rw [if_neg (by simp [hi]), if_pos h8]
      rw [hr]
      obtain ⟨hv, h8⟩ := h8
      have E1 : decide ((m : Int) = 8) = true := decide_eq_true h8
      have h8n : m = 8 := by omega
      have HF := hide hf
      have HR := hide hr
      clear hr hf hi ha0 ha1 hn h8
      subst h8n
      generalize σ.spAt a = v at *
      cases v with
      | nil => cases hv
      | _ =>
        clear hv
        go_enter Try.func15, Try.ntmps15
        go_wp2_with fail
        refine C.out.mono ?_
        rintro e w1 ⟨rfl, rfl⟩
        go_wp2_with fail
        refine C2.out.mono ?_
        rintro e w1 ⟨rfl, hb⟩
        go_wp2_with fail
        refine (C3.out _ (H.out.below hb)).mono ?_
        rintro e w2 ⟨rfl, rfl⟩
        simp only [AV.enc]
        go_wp2_with fail
        go_returns
        exact ⟨rfl, hb⟩
    · have hr : σ.load a m = if (σ.read f m).2 = 0 then (.num (wordGet (σ.read f m).1 0 m).1, 0) else (.nil, (σ.read f m).2) := by
        unfold Stk.load
        rw [if_neg (by simp [hi]), if_neg h8, hf]
        rfl
      rw [hr]
      have hq : (σ.spAt a = .nil) ∨ ((σ.spAt a).no = false ∧ ¬ (m : Int) = 8) := by
        cases hv : (σ.spAt a).no with
        | true => left; cases h : σ.spAt a <;> rw [h] at hv <;> first | rfl | cases hv
        | false => exact .inr ⟨rfl, fun h => h8 ⟨hv, h⟩⟩
      have C4 := hide (fun W (h : StkIs W p mb σ) => stk_read W p mb σ h f m (by omega))
      have hsz := text_size σ H.out.ok f m (by omega)
      have HF := hide hf
      have HR := hide hr
      clear hr hf hi ha0 ha1 hn h8
      generalize σ.read f m = R at *
      obtain ⟨T, c⟩ := R
      simp only [] at C4 hsz ⊢
      have C5 := hide (fun W => word_get T 0 m (by omega) W)
      generalize wordGet T 0 m = G at *
      obtain ⟨g, gc⟩ := G
      simp only [] at C5 ⊢
      rcases hq with hv | ⟨hv, h8⟩
      · rw [hv] at C3
        clear hv
        go_enter Try.func15, Try.ntmps15
        go_wp2_with fail
        refine C.out.mono ?_
        rintro e w1 ⟨rfl, rfl⟩
        go_wp2_with fail
        refine C2.out.mono ?_
        rintro e w1 ⟨rfl, hb⟩
        go_wp2_with fail
        refine (C3.out _ (H.out.below hb)).mono ?_
        rintro e w2 ⟨rfl, rfl⟩
        simp only [AV.enc]
        go_wp2_with fail
        refine (C4.out _ (H.out.below hb)).mono ?_
        rintro e w2 ⟨rfl, hb2⟩
        replace hb2 := below_on hb hb2
        clear hb
        by_cases hc : c = 0
        · subst hc
          go_wp2_with fail
          refine (C5.out _).mono ?_
          rintro e w3 ⟨rfl, rfl⟩
          go_wp2_with fail
          go_returns
          exact ⟨rfl, hb2⟩
        · have hc2 : (c == 0) = false := beq_eq_false_iff_ne.2 hc
          have HC := hide hc
          clear hc
          go_wp2_with fail
          go_returns
          exact ⟨by first | rfl | (rw [if_neg HC.out]; rfl), hb2⟩
      · have E1 : decide ((m : Int) = 8) = false := decide_eq_false h8
        have E2 : ((m : Int) == 8) = false := beq_eq_false_iff_ne.2 h8
        generalize σ.spAt a = v at *
        cases v with
        | nil => cases hv
        | _ =>
          clear hv
          go_enter Try.func15, Try.ntmps15
          go_wp2_with fail
          refine C.out.mono ?_
          rintro e w1 ⟨rfl, rfl⟩
          go_wp2_with fail
          refine C2.out.mono ?_
          rintro e w1 ⟨rfl, hb⟩
          go_wp2_with fail
          refine (C3.out _ (H.out.below hb)).mono ?_
          rintro e w2 ⟨rfl, rfl⟩
          simp only [AV.enc]
          go_wp2_with fail
          refine (C4.out _ (H.out.below hb)).mono ?_
          rintro e w2 ⟨rfl, hb2⟩
          replace hb2 := below_on hb hb2
          clear hb
          by_cases hc : c = 0
          · subst hc
            go_wp2_with fail
            refine (C5.out _).mono ?_
            rintro e w3 ⟨rfl, rfl⟩
            go_wp2_with fail
            go_returns
            exact ⟨rfl, hb2⟩
          · have hc2 : (c == 0) = false := beq_eq_false_iff_ne.2 hc
            have HC := hide hc
            clear hc
            go_wp2_with fail
            go_returns
            exact ⟨by first | rfl | (rw [if_neg HC.out]; rfl), hb2⟩

end Go.Proofs.Ytcddpmiandgkjaa
