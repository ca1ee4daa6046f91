import Derived.Test.YtjfcpajajaigfaaRefs
/-! Package refs: Own, Peek, of, Lend, Over, Of. -/
namespace Go.Proofs.Ytjfcpajajaigfaa
open Go.RowKit Go.Maps
set_option maxHeartbeats 2000000
set_option maxRecDepth 100000
set_option linter.unusedSimpArgs false
set_option linter.unusedVariables false

theorem may_trans {N b : Nat} {w W w1 : World} (h : Turned (RefsMay N b w) w W) (k : Turned (RefsMay N b W) W w1) : Turned (RefsMay N b w) w w1 :=
  ⟨k.os.trans h.os, k.tape.trans h.tape, k.output.trans h.output, Nat.le_trans h.size k.size, fun i hi hn => by
    have h1 := h.block i hi hn
    refine (k.block i (Nat.lt_of_lt_of_le hi h.size) ?_).trans h1
    rintro ⟨h0, h2 | ⟨c, h2⟩⟩
    · exact hn ⟨h0, .inl h2⟩
    · exact hn ⟨h0, .inr ⟨c, h1.symm.trans h2⟩⟩⟩

theorem refs_own (N : Nat) (w : World) (b : Nat) (L : List Rf) (h : RefsIs N w b L) (hL : L.length ≤ 100000) (s g : Int) :
    Calls Try.prog 22 #[.pointer (some ⟨b, 0, none⟩), .agg #[.int .i64 s, .int .u64 g]] w fun e w' =>
      e = .returned (.tuple #[.int .u64 (L.length + 1 : Nat), .int .i64 0]) ∧ RefsIs N w' b (L ++ [⟨s, g, 1⟩]) ∧ Turned (RefsMay N b w) w w' := by
  have B0 : Below w.heap.size w (w.alloc (.cells #[.int .i64 s, .int .u64 g] 58)) := (Below.refl _ w).alloc (Nat.le_refl _) _
  have C := hide (refs_comes N _ b L (h.below B0) hL s g 1)
  have HB := hide B0
  have hlt := hide h.lt
  clear h hL B0
  go_enter Try.func22, Try.ntmps22
  go_wp2_with fail
  refine C.out.mono ?_
  rintro e w1 ⟨rfl, h1, ht⟩
  go_wp2_with fail
  go_returns
  exact ⟨rfl, h1, may_trans (Turned.of_below HB.out) ht⟩

theorem refs_peek (N : Nat) (w : World) (b : Nat) (L : List Rf) (h : RefsIs N w b L) (hL : L.length ≤ 100000) (s g : Int) :
    Calls Try.prog 23 #[.pointer (some ⟨b, 0, none⟩), .agg #[.int .i64 s, .int .u64 g]] w fun e w' =>
      e = .returned (.tuple #[.int .u64 (L.length + 1 : Nat), .int .i64 0]) ∧ RefsIs N w' b (L ++ [⟨s, g, 2⟩]) ∧ Turned (RefsMay N b w) w w' := by
  have B0 : Below w.heap.size w (w.alloc (.cells #[.int .i64 s, .int .u64 g] 58)) := (Below.refl _ w).alloc (Nat.le_refl _) _
  have C := hide (refs_comes N _ b L (h.below B0) hL s g 2)
  have HB := hide B0
  have hlt := hide h.lt
  clear h hL B0
  go_enter Try.func23, Try.ntmps23
  go_wp2_with fail
  refine C.out.mono ?_
  rintro e w1 ⟨rfl, h1, ht⟩
  go_wp2_with fail
  go_returns
  exact ⟨rfl, h1, may_trans (Turned.of_below HB.out) ht⟩


theorem refs_at {N : Nat} {w : World} {b : Nat} {L : List Rf} {g0 n c : Nat} (hown : w.ownsRow N 91 3 (.slice (some ⟨g0, 0, none⟩) n c) L.length (rowC Rf.enc L)) {m : Nat} {x : Rf} (hx : L[m]? = some x) :
    (w.cell? ⟨g0, m * 3, none⟩ = some (.int .i64 x.s) ∧ w.cell? ⟨g0, m * 3 + 1, none⟩ = some (.int .u64 x.g) ∧ w.cell? ⟨g0, m * 3 + 2, none⟩ = some (.int .u8 x.k)) ∧ w.frozen? ⟨g0, m * 3 + 2, none⟩ = false := by
  have h0 := owns_cell hown (rowC_at Rf.enc_length hx 0 _ rfl)
  have h1 := owns_cell hown (rowC_at Rf.enc_length hx 1 _ rfl)
  have h2 := owns_cell hown (rowC_at Rf.enc_length hx 2 _ rfl)
  exact ⟨⟨h0.1, h1.1, h2.1⟩, h2.2⟩

theorem refs_of_ok (N : Nat) (w : World) (b : Nat) (L : List Rf) (g0 n c : Nat) (hb : Has w b 82 #[.bool true, .slice (some ⟨g0, 0, none⟩) n c]) (hn : n = L.length) (hL : L.length ≤ 100000)
    (hown : w.ownsRow N 91 3 (.slice (some ⟨g0, 0, none⟩) n c) L.length (rowC Rf.enc L)) (m : Nat) (x : Rf) (hx : L[m]? = some x) (hk : x.k ≠ 3) :
    Calls Try.prog 37 #[.pointer (some ⟨b, 0, none⟩), .int .u64 (m + 1 : Nat)] w fun e w' => e = .returned (.tuple #[.pointer (some ⟨g0, m * 3, none⟩), .int .i64 0]) ∧ w = w' := by
  have hm : m < n := by have := (List.getElem?_eq_some_iff.1 hx).1; omega
  obtain ⟨⟨c0, c1, c2⟩, _⟩ := refs_at (b := b) hown hx
  have b0 : w.cell? ⟨b, 0, none⟩ = some (.bool true) := hb.cell 0
  have b1 : w.cell? ⟨b, 1, none⟩ = some (.slice (some ⟨g0, 0, none⟩) n c) := hb.cell 1
  have hk2 : (x.k == 3) = false := beq_eq_false_iff_ne.2 hk
  obtain ⟨r, hr⟩ : ∃ r, r = m + 1 := ⟨_, rfl⟩
  rw [← hr]
  have d1 : decide ((r : Int) < 1) = false := decide_eq_false (by omega)
  have d2 : decide ((n : Int) < (r : Int)) = false := decide_eq_false (by omega)
  have hri : (r : Int) - 1 = (m : Int) := by omega
  have hw : IntKind.u64.wrap ((r : Int) - 1) = (m : Int) := by rw [wrap_u64 (by omega) (by omega)]; exact hri
  have hw2 : IntKind.u64.wrap (n : Int) = (n : Int) := wrap_u64 (by omega) (by omega)
  have hr1 : ¬ r < 1 := by omega
  have hr2 : ¬ n < r := by omega
  generalize x.k = kk at *
  have HR := hide (And.intro hr hri)
  have HK := hide hk
  have HX := hide hx
  clear hb hown hx hn hL c0 c1 hr hri hk
  go_enter Try.func37, Try.ntmps37
  go_wp2_with fail
  go_returns
  exact ⟨rfl, rfl⟩

theorem refs_of_no (N : Nat) (w : World) (b : Nat) (L : List Rf) (h : RefsIs N w b L) (hL : L.length ≤ 100000) (r : Int) (hr0 : 0 ≤ r) (hr1 : r < 18446744073709551616) (hno : ∀ m x, r = ((m + 1 : Nat) : Int) → L[m]? = some x → x.k = 3) :
    Calls Try.prog 37 #[.pointer (some ⟨b, 0, none⟩), .int .u64 r] w fun e w' => e = .returned (.tuple #[.pointer none, .int .i64 240]) ∧ w = w' := by
  obtain ⟨A, c, hb, hown⟩ := h.form
  have b0 : w.cell? ⟨b, 0, none⟩ = some (.bool true) := hb.cell 0
  have b1 : w.cell? ⟨b, 1, none⟩ = some (.slice A L.length c) := hb.cell 1
  obtain ⟨n, hn⟩ : ∃ n, n = L.length := ⟨_, rfl⟩
  rw [← hn] at b1 hown
  have hw2 : IntKind.u64.wrap (n : Int) = (n : Int) := wrap_u64 (by omega) (by omega)
  have HN := hide hn
  have HB := hide hb
  by_cases h1 : r < 1
  · have d1 : decide (r < 1) = true := decide_eq_true h1
    clear hb hown hL hno h hn
    go_enter Try.func37, Try.ntmps37
    go_wp2_with fail
    go_returns
    exact ⟨rfl, rfl⟩
  · have d1 : decide (r < 1) = false := decide_eq_false h1
    by_cases h2 : (n : Int) < r
    · have d2 : decide ((n : Int) < r) = true := decide_eq_true h2
      clear hb hown hL hno h hn
      go_enter Try.func37, Try.ntmps37
      go_wp2_with fail
      go_returns
      exact ⟨rfl, rfl⟩
    · have d2 : decide ((n : Int) < r) = false := decide_eq_false h2
      obtain ⟨m, hm⟩ : ∃ m : Nat, r = ((m + 1 : Nat) : Int) := ⟨r.toNat - 1, by omega⟩
      have hml : m < L.length := by omega
      obtain ⟨x, hx⟩ : ∃ x, L[m]? = some x := ⟨_, List.getElem?_eq_getElem hml⟩
      have hk := hno m x hm hx
      obtain ⟨g0, cap, hA⟩ := owns_some hown (by omega)
      injection hA with hA1 _ _
      subst hA1
      rw [hn] at hown
      obtain ⟨⟨c0, c1, c2⟩, _⟩ := refs_at (b := b) hown hx
      rw [hk] at c2
      have hri : r - 1 = (m : Int) := by omega
      have hw : IntKind.u64.wrap (r - 1) = (m : Int) := by rw [wrap_u64 (by omega) (by omega)]; exact hri
      have hmn : m < n := by omega
      have HM := hide (And.intro hm (And.intro hri (And.intro hx hk)))
      clear hb hown hL hno h hn hm hri hx hk hml c0 c1
      go_enter Try.func37, Try.ntmps37
      go_wp2_with fail
      go_returns
      exact ⟨rfl, rfl⟩

/-- The kind of a reference set anew. -/
def Rf.as (x : Rf) (k : Int) : Rf := ⟨x.s, x.g, k⟩
theorem rf_set (x : Rf) (k : Int) : (x.as k).enc = x.enc.set 2 (.int .u8 k) := rfl

theorem refs_set {N : Nat} {w : World} {b : Nat} {L : List Rf} {g0 c : Nat} (hb : Has w b 82 #[.bool true, .slice (some ⟨g0, 0, none⟩) L.length c]) (hN : N ≤ b)
    (hown : w.ownsRow N 91 3 (.slice (some ⟨g0, 0, none⟩) L.length c) L.length (rowC Rf.enc L)) {m : Nat} {x : Rf} (hx : L[m]? = some x) (k : Int) :
    RefsIs N (w.setCell ⟨g0, m * 3 + 2, none⟩ (.int .u8 k)) b (L.set m (x.as k)) ∧ Turned (RefsMay N b w) w (w.setCell ⟨g0, m * 3 + 2, none⟩ (.int .u8 k)) := by
  have hm := (List.getElem?_eq_some_iff.1 hx).1
  obtain ⟨cc, hcc⟩ := owns_block hown (k := g0) rfl
  refine ⟨⟨hN, .slice (some ⟨g0, 0, none⟩) L.length c, hb.far (p := ⟨g0, m * 3 + 2, none⟩) (hb.ne hcc (by decide)) _, ?_⟩, (Turned.refl _ w).set (p := ⟨g0, m * 3 + 2, none⟩) (fun _ => ⟨owns_base hown rfl, .inr ⟨cc, hcc⟩⟩) _⟩
  rw [rowC_set Rf.enc_length hx (by omega) (rf_set x k), List.length_set]
  exact owns_set hown (by rw [rowC_length Rf.enc_length]; omega) _

/-- Over: what it leaves, and answers. -/
def rOver (L : List Rf) (r : Int) : List Rf × Int := match L[(r - 1).toNat]? with
  | some x => if 1 ≤ r ∧ x.k ≠ 3 then (L.set (r - 1).toNat (x.as 3), 0) else (L, 240)
  | none => (L, 240)
/-- Lend. -/
def rLend (L : List Rf) (r : Int) : List Rf × Int := match L[(r - 1).toNat]? with
  | some x => if 1 ≤ r ∧ x.k ≠ 3 then (if x.k = 1 then (L.set (r - 1).toNat (x.as 2), 0) else (L, 241)) else (L, 240)
  | none => (L, 240)

theorem r_cases (L : List Rf) (r : Int) : (∃ m x, r = ((m + 1 : Nat) : Int) ∧ L[m]? = some x ∧ x.k ≠ 3) ∨ ((∀ m x, r = ((m + 1 : Nat) : Int) → L[m]? = some x → x.k = 3) ∧ rOver L r = (L, 240) ∧ rLend L r = (L, 240)) := by
  by_cases h : ∃ m x, r = ((m + 1 : Nat) : Int) ∧ L[m]? = some x ∧ x.k ≠ 3
  · exact .inl h
  · have hno : ∀ m x, r = ((m + 1 : Nat) : Int) → L[m]? = some x → x.k = 3 := fun m x h1 h2 => by
      by_cases h3 : x.k = 3
      · exact h3
      · exact absurd ⟨m, x, h1, h2, h3⟩ h
    refine .inr ⟨hno, ?_, ?_⟩
    · unfold rOver
      split
      · rename_i x hx
        rw [if_neg (fun h1 => h1.2 (hno _ x (by omega) hx))]
      · rfl
    · unfold rLend
      split
      · rename_i x hx
        rw [if_neg (fun h1 => h1.2 (hno _ x (by omega) hx))]
      · rfl

theorem refs_over (N : Nat) (w : World) (b : Nat) (L : List Rf) (h : RefsIs N w b L) (hL : L.length ≤ 100000) (r : Int) (hr0 : 0 ≤ r) (hr1 : r < 18446744073709551616) :
    Calls Try.prog 25 #[.pointer (some ⟨b, 0, none⟩), .int .u64 r] w fun e w' => e = .returned (.int .i64 (rOver L r).2) ∧ RefsIs N w' b (rOver L r).1 ∧ Turned (RefsMay N b w) w w' := by
  rcases r_cases L r with ⟨m, x, rfl, hx, hk⟩ | ⟨hno, ho, _⟩
  · obtain ⟨A, c, hb, hown⟩ := h.form
    obtain ⟨g0, cap, hA⟩ := owns_some hown (by have := (List.getElem?_eq_some_iff.1 hx).1; omega)
    injection hA with hA1 _ _
    subst hA1
    have hm : (((m + 1 : Nat) : Int) - 1).toNat = m := by omega
    have ho : rOver L ((m + 1 : Nat) : Int) = (L.set m (x.as 3), 0) := by
      unfold rOver
      rw [hm, hx]
      simp only []
      rw [if_pos ⟨by omega, hk⟩]
    rw [ho]
    have C := hide (refs_of_ok N w b L g0 L.length c hb rfl hL hown m x hx hk)
    have HS := hide (refs_set hb h.1 hown hx 3)
    obtain ⟨⟨c0, c1, c2⟩, f2⟩ := refs_at (b := b) hown hx
    clear c0 c1 hb hown hx hk ho h hL hm hr0 hr1
    go_enter Try.func25, Try.ntmps25
    go_wp2_with fail
    refine C.out.mono ?_
    rintro e w1 ⟨rfl, rfl⟩
    go_wp2_with fail
    go_ret
    exact ⟨rfl, HS.out.1, HS.out.2⟩
  · rw [ho]
    have C := hide (refs_of_no N w b L h hL r hr0 hr1 hno)
    have H := hide h
    clear h hno ho
    go_enter Try.func25, Try.ntmps25
    go_wp2_with fail
    refine C.out.mono ?_
    rintro e w1 ⟨rfl, rfl⟩
    go_wp2_with fail
    go_ret
    exact ⟨rfl, H.out, Turned.refl _ _⟩

theorem refs_lend (N : Nat) (w : World) (b : Nat) (L : List Rf) (h : RefsIs N w b L) (hL : L.length ≤ 100000) (r : Int) (hr0 : 0 ≤ r) (hr1 : r < 18446744073709551616) :
    Calls Try.prog 24 #[.pointer (some ⟨b, 0, none⟩), .int .u64 r] w fun e w' => e = .returned (.int .i64 (rLend L r).2) ∧ RefsIs N w' b (rLend L r).1 ∧ Turned (RefsMay N b w) w w' := by
  rcases r_cases L r with ⟨m, x, rfl, hx, hk⟩ | ⟨hno, _, ho⟩
  · obtain ⟨A, c, hb, hown⟩ := h.form
    obtain ⟨g0, cap, hA⟩ := owns_some hown (by have := (List.getElem?_eq_some_iff.1 hx).1; omega)
    injection hA with hA1 _ _
    subst hA1
    have hm : (((m + 1 : Nat) : Int) - 1).toNat = m := by omega
    have ho : rLend L ((m + 1 : Nat) : Int) = if x.k = 1 then (L.set m (x.as 2), 0) else (L, 241) := by
      unfold rLend
      rw [hm, hx]
      simp only []
      rw [if_pos ⟨by omega, hk⟩]
    rw [ho]
    have C := hide (refs_of_ok N w b L g0 L.length c hb rfl hL hown m x hx hk)
    have HS := hide (refs_set hb h.1 hown hx 2)
    obtain ⟨⟨c0, c1, c2⟩, f2⟩ := refs_at (b := b) hown hx
    have H := hide h
    by_cases h1 : x.k = 1
    · rw [if_pos h1]
      rw [h1] at c2
      clear c0 c1 hb hown hx hk ho h hL hm hr0 hr1 h1
      go_enter Try.func24, Try.ntmps24
      go_wp2_with fail
      refine C.out.mono ?_
      rintro e w1 ⟨rfl, rfl⟩
      go_wp2_with fail
      go_ret
      exact ⟨rfl, HS.out.1, HS.out.2⟩
    · rw [if_neg h1]
      have h2 : (x.k == 1) = false := beq_eq_false_iff_ne.2 h1
      generalize x.k = kk at c2 h2
      clear c0 c1 hb hown hx hk ho h hL hm hr0 hr1 h1 HS
      go_enter Try.func24, Try.ntmps24
      go_wp2_with fail
      refine C.out.mono ?_
      rintro e w1 ⟨rfl, rfl⟩
      go_wp2_with fail
      go_ret
      exact ⟨rfl, H.out, Turned.refl _ _⟩
  · rw [ho]
    have C := hide (refs_of_no N w b L h hL r hr0 hr1 hno)
    have H := hide h
    clear h hno ho
    go_enter Try.func24, Try.ntmps24
    go_wp2_with fail
    refine C.out.mono ?_
    rintro e w1 ⟨rfl, rfl⟩
    go_wp2_with fail
    go_ret
    exact ⟨rfl, H.out, Turned.refl _ _⟩

end Go.Proofs.Ytjfcpajajaigfaa
