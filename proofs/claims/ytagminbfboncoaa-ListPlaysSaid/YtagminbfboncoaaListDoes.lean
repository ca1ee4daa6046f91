import Derived.Test.YtagminbfboncoaaListRef4
/-! Package list: wardenlaw15.does. -/
namespace Go.Proofs.Ytagminbfboncoaa
open Go.RowKit Go.Maps
set_option maxHeartbeats 4000000
set_option maxRecDepth 100000
set_option linter.unusedSimpArgs false
set_option linter.unusedVariables false

/-- The list and the document's list hold the same row. -/
def Both (N : Nat) (w : World) (b mb x : Nat) (hs : List (Int × Int)) : Prop := ListIs N w b mb hs ∧ RefIs N w x hs

theorem Both.below {N : Nat} {w w' : World} {b mb x : Nat} {hs : List (Int × Int)} (h : Both N w b mb x hs) (t : Below w.heap.size w w') : Both N w' b mb x hs := ⟨h.1.below t, h.2.below t⟩

theorem RefIs.lt {N : Nat} {w : World} {x : Nat} {hs : List (Int × Int)} (h : RefIs N w x hs) : x < w.heap.size := by obtain ⟨_, v, h2, _⟩ := h; exact h2.lt

theorem ListIs.turned_x {N : Nat} {w w' : World} {b mb x : Nat} {hs ks : List (Int × Int)} (h : ListIs N w b mb hs) (r : RefIs N w x ks) (t : Turned (fun k => k = x) w w') : ListIs N w' b mb hs := by
  obtain ⟨_, v, hx, _⟩ := r
  refine h.kept fun k hk => t.block k ?_ (fun e => hx.notMay (by decide) (by decide) (e ▸ hk))
  rcases hk with ⟨c2, hc⟩ | ⟨c2, hc⟩ | ⟨_, e2, c2, hc⟩ <;> exact (Array.getElem?_eq_some_iff.1 hc).1

theorem turned_x_below {N x : Nat} {w w' : World} {ks : List (Int × Int)} (r : RefIs N w x ks) (t : Turned (fun k => k = x) w w') : Below N w w' :=
  t.below (Nat.le_trans r.1 (Nat.le_of_lt r.lt)) (fun k hk => by rw [hk]; exact r.1)

/-- A step's cells stay. -/
theorem step_kept {mb : Nat} {w w' : World} {q : Nat} {cs : Array Value} (h : Has w q 42 cs) (t : Turned (ListMay mb w) w w') : Has w' q 42 cs :=
  (t.block _ h.lt (h.notMay (by decide) (by decide))).trans h
theorem step_kept_x {N x : Nat} {w w' : World} {q : Nat} {cs : Array Value} {ks : List (Int × Int)} (h : Has w q 42 cs) (r : RefIs N w x ks) (t : Turned (fun k => k = x) w w') : Has w' q 42 cs := by
  obtain ⟨_, v, hx, _⟩ := r
  exact (t.block _ h.lt (h.ne hx (by decide))).trans h

theorem handle_kept_x {N x : Nat} {w w' : World} {q : Nat} {cs : Array Value} {ks : List (Int × Int)} (h : Has w q 29 cs) (r : RefIs N w x ks) (t : Turned (fun k => k = x) w w') : Has w' q 29 cs := by
  obtain ⟨_, v, hx, _⟩ := r
  exact (t.block _ h.lt (h.ne hx (by decide))).trans h

theorem popped_erase {hs : List (Int × Int)} (hn : hs.Nodup) {front : Bool} (h : hs ≠ []) : popped hs front = hs.eraseIdx (endAt hs front) := by
  have he := endAt_lt h front
  unfold popped
  have e : endOf hs front = some hs[endAt hs front] := List.getElem?_eq_getElem he
  rw [e]
  simp only []
  unfold removed
  rw [hAt_nodup hn (List.getElem?_eq_getElem he)]

/-- The row behind a step. -/
def stepOf (hs : List (Int × Int)) (d : Int) (p : Int × Int) (f : Bool) : List (Int × Int) := if d = 0 then pushed hs p f else if d = 1 then popped hs f else if d = 2 then removed hs p else hs

theorem removed_length (hs : List (Int × Int)) (p : Int × Int) : (removed hs p).length ≤ hs.length + 1 := by
  unfold removed
  cases hAt hs p with
  | none => simp
  | some i => simp only []; rw [List.length_eraseIdx]; split <;> omega

theorem stepOf_length (hs : List (Int × Int)) (d : Int) (p : Int × Int) (f : Bool) : (stepOf hs d p f).length ≤ hs.length + 1 := by
  unfold stepOf
  split
  · unfold pushed
    split
    · omega
    · split <;> simp
  · split
    · unfold popped
      cases endOf hs f with
      | none => simp
      | some q => exact removed_length hs q
    · split
      · exact removed_length hs p
      · omega

def DoesPost (N : Nat) (w : World) (b mb x : Nat) (hs' : List (Int × Int)) (e : Ending) (w' : World) : Prop :=
  e = .returned (.bool true) ∧ Both N w' b mb x hs' ∧ Below N w w' ∧ (∀ q cs, Has w q 42 cs → Has w' q 42 cs)

theorem list_does (N : Nat) (w : World) (b mb x : Nat) (hs : List (Int × Int)) (h : Both N w b mb x hs) (hsm : hs.length ≤ 90000) (d s g : Int) (f : Bool) (hok : hOk (s, g)) :
    Calls Try.prog 14 #[.pointer (some ⟨b, 0, none⟩), .pointer (some ⟨x, 0, none⟩), .agg #[.int .i64 d, .int .i64 s, .int .u64 g, .bool f]] w (DoesPost N w b mb x (stepOf hs d (s, g) f)) := by
  have hNw : N ≤ w.heap.size := Nat.le_trans h.2.1 (Nat.le_of_lt h.2.lt)
  obtain ⟨q, hq⟩ : ∃ q, q = w.heap.size := ⟨_, rfl⟩
  have B0 : Below w.heap.size w (w.alloc (.cells #[.int .i64 d, .int .i64 s, .int .u64 g, .bool f] 42)) := (Below.refl _ w).alloc (Nat.le_refl _) _
  have H0 := hide (h.below B0)
  have Q0 := hide (show Has (w.alloc (.cells #[.int .i64 d, .int .i64 s, .int .u64 g, .bool f] 42)) q 42 #[.int .i64 d, .int .i64 s, .int .u64 g, .bool f] by rw [hq]; exact Has.new w _ _)
  have K0 := hide (show ∀ q cs, Has w q 42 cs → Has (w.alloc (.cells #[.int .i64 d, .int .i64 s, .int .u64 g, .bool f] 42)) q 42 cs from fun q cs hh => hh.alloc _)
  have B0 := hide (B0.mono hNw)
  have HND := hide h.1.nodup
  have HSM := hide hsm
  have HOK := hide hok
  clear h hsm hok hNw
  by_cases hd0 : d = 0
  · subst hd0
    have c0 := Q0.out.cell 0
    have c1 := Q0.out.cell 1
    have c2 := Q0.out.cell 2
    have c3 := Q0.out.cell 3
    rw [hq] at c0 c1 c2 c3
    go_enter Try.func14, Try.ntmps14
    go_wp2_with fail
    clear c0 c1 c2 c3
    rw [← hq] at *
    generalize w.alloc (.cells #[.int .i64 0, .int .i64 s, .int .u64 g, .bool f] 42) = W0 at *
    have hQd : Has W0.drew q 42 #[.int .i64 0, .int .i64 s, .int .u64 g, .bool f] := Q0.out
    have hHd : Both N W0.drew b mb x hs := H0.out.below (Below.refl _ _).drew
    have c1 : W0.drew.cell? ⟨q, 1, none⟩ = some (.int .i64 s) := hQd.cell 1
    have c2 : W0.drew.cell? ⟨q, 2, none⟩ = some (.int .u64 g) := hQd.cell 2
    have c3 : W0.drew.cell? ⟨q, 3, none⟩ = some (.bool f) := hQd.cell 3
    have GL := hide (fun W (h : ListIs N W b mb hs) => list_push N W b mb hs h (s, g) HOK.out f)
    have GR := hide (fun W (h : RefIs N W x hs) => ref_push N W x hs h (Nat.le_trans HSM.out (by omega)) (s, g) f)
    have hr0 : IntKind.i64.wrap (if (s, g) ∈ hs then 7 else 0) = (if (s, g) ∈ hs then 7 else 0) := by split <;> rfl
    generalize hrr : (if (s, g) ∈ hs then (7 : Int) else 0) = r at *
    clear hrr
    go_region_held3 (fun w' => w'.cell? ⟨q, 1, none⟩ = some (.int .i64 s) ∧ w'.cell? ⟨q, 2, none⟩ = some (.int .u64 g) ∧ w'.cell? ⟨q, 3, none⟩ = some (.bool f))
      (first
        | go_keep
        | exact ⟨hQ6.cell 1, hQ6.cell 2, hQ6.cell 3⟩
        | exact ⟨hQ5.cell 1, hQ5.cell 2, hQ5.cell 3⟩)
      (first
        | (go_at_call 10; refine (GL.out _ hHd.1).mono ?_; rintro e w5 ⟨rfl, L5, t5, q5⟩; have hQ5 := step_kept hQd q5; have hR5 := hHd.2.turned q5)
        | (go_at_call 23; refine (GR.out _ hR5).mono ?_; rintro e w6 ⟨rfl, R6, q6⟩; have hQ6 := step_kept_x hQ5 hR5 q6))
    have HB6 := hide (show Both N w6 b mb x (pushed hs (s, g) f) from ⟨L5.turned_x hR5 q6, R6⟩)
    have B6 := hide ((B0.out.trans (Below.refl N W0).drew).trans (t5.trans (turned_x_below hR5 q6)))
    have K6 := hide (show ∀ q cs, Has w q 42 cs → Has w6 q 42 cs from fun q cs hh => step_kept_x (step_kept (w := W0.drew) (K0.out q cs hh) q5) hR5 q6)
    clear hQd hHd L5 t5 q5 hQ5 hR5 R6 q6 hQ6 hr0 c1 c2 c3
    go_wp2_with fail
    go_returns
    exact ⟨rfl, (show stepOf hs 0 (s, g) f = pushed hs (s, g) f by simp [stepOf]) ▸ HB6.out, B6.out, K6.out⟩
  · by_cases hd1 : d = 1
    · subst hd1
      have c0 := Q0.out.cell 0
      have c3 := Q0.out.cell 3
      rw [hq] at c0 c3
      have G := list_pop N _ b mb hs H0.out.1 f
      by_cases hnil : hs = []
      · have e1 : endOf hs f = none := by rw [hnil]; rfl
        have e2 : popped hs f = hs := by unfold popped; rw [e1]
        rw [e1, e2] at G
        simp only [Option.getD, Option.isSome, hv] at G
        have G := hide G
        go_enter Try.func14, Try.ntmps14
        go_wp2_with fail
        refine G.out.mono ?_
        rintro e w2 ⟨rfl, L2, t2, q2⟩
        have hX3 := hide (Has.new w2 29 #[.int .i64 0, .int .u64 0])
        have BL := (Below.refl w2.heap.size w2).alloc (Nat.le_refl _) (.cells #[.int .i64 0, .int .u64 0] 29)
        have L3 := hide (L2.below BL)
        have R3 := hide ((H0.out.2.turned q2).below BL)
        have hN2 : N ≤ w2.heap.size := Nat.le_trans R3.out.1 (Nat.le_of_lt (H0.out.2.turned q2).lt)
        have hN3 : N ≤ (w2.alloc (.cells #[.int .i64 0, .int .u64 0] 29)).heap.size := Nat.le_trans hN2 BL.size
        have B3 := hide ((B0.out.trans t2).trans (BL.mono hN2))
        have hQ3 := (step_kept Q0.out q2).alloc (.cells #[.int .i64 0, .int .u64 0] 29)
        have d3 : (w2.alloc (.cells #[.int .i64 0, .int .u64 0] 29)).cell? ⟨w.heap.size, 3, none⟩ = some (.bool f) := by rw [← hq]; exact hQ3.cell 3
        have K3 := hide (show ∀ q cs, Has w q 42 cs → Has (w2.alloc (.cells #[.int .i64 0, .int .u64 0] 29)) q 42 cs from fun q cs hh => (step_kept (K0.out q cs hh) q2).alloc _)
        clear L2 t2 q2 BL hQ3 c0 c3
        have GE := ref_end N _ x hs R3.out (Nat.le_trans HSM.out (by omega)) f
        rw [if_pos hnil] at GE
        have GE := hide GE
        have HNIL := hide hnil
        clear hnil e1 e2
        go_wp2_with fail
        refine GE.out.mono ?_
        rintro e w4 ⟨rfl, t4⟩
        have hX4 := hX3.out.below t4 hX3.out.lt
        have k0 : w4.cell? ⟨w2.heap.size, 0, none⟩ = some (.int .i64 0) := hX4.cell 0
        have k1 : w4.cell? ⟨w2.heap.size, 1, none⟩ = some (.int .u64 0) := hX4.cell 1
        have HB5 := hide (show Both N w4 b mb x hs from ⟨L3.out.below t4, R3.out.below t4⟩)
        have B5 := hide (B3.out.trans (t4.mono hN3))
        have K5 := hide (show ∀ q cs, Has w q 42 cs → Has w4 q 42 cs from fun q cs hh => (K3.out q cs hh).below t4 (K3.out q cs hh).lt)
        clear t4 hX4 d3
        go_wp2_with fail
        go_returns
        refine ⟨rfl, ?_, B5.out, K5.out⟩
        rw [show stepOf hs 1 (s, g) f = popped hs f by simp [stepOf]]
        have e2 : popped hs f = hs := by
          unfold popped
          rw [HNIL.out]
          rfl
        rw [e2]
        exact HB5.out
      · have hlt := endAt_lt hnil f
        obtain ⟨p, hp⟩ : ∃ p, hs[endAt hs f]? = some p := ⟨_, List.getElem?_eq_getElem hlt⟩
        have e1 : endOf hs f = some p := hp
        rw [e1, popped_erase HND.out hnil] at G
        simp only [Option.getD, Option.isSome, hv] at G
        obtain ⟨s1, g1⟩ := p
        have G := hide G
        go_enter Try.func14, Try.ntmps14
        go_wp2_with fail
        refine G.out.mono ?_
        rintro e w2 ⟨rfl, L2, t2, q2⟩
        have hX3 := hide (Has.new w2 29 #[.int .i64 s1, .int .u64 g1])
        have BL := (Below.refl w2.heap.size w2).alloc (Nat.le_refl _) (.cells #[.int .i64 s1, .int .u64 g1] 29)
        have L3 := hide (L2.below BL)
        have R3 := hide ((H0.out.2.turned q2).below BL)
        have hN2 : N ≤ w2.heap.size := Nat.le_trans R3.out.1 (Nat.le_of_lt (H0.out.2.turned q2).lt)
        have hN3 : N ≤ (w2.alloc (.cells #[.int .i64 s1, .int .u64 g1] 29)).heap.size := Nat.le_trans hN2 BL.size
        have B3 := hide ((B0.out.trans t2).trans (BL.mono hN2))
        have hQ3 := (step_kept Q0.out q2).alloc (.cells #[.int .i64 s1, .int .u64 g1] 29)
        have d3 : (w2.alloc (.cells #[.int .i64 s1, .int .u64 g1] 29)).cell? ⟨w.heap.size, 3, none⟩ = some (.bool f) := by rw [← hq]; exact hQ3.cell 3
        have K3 := hide (show ∀ q cs, Has w q 42 cs → Has (w2.alloc (.cells #[.int .i64 s1, .int .u64 g1] 29)) q 42 cs from fun q cs hh => (step_kept (K0.out q cs hh) q2).alloc _)
        clear L2 t2 q2 BL hQ3 c0 c3
        have GE := ref_end N _ x hs R3.out (Nat.le_trans HSM.out (by omega)) f
        rw [if_neg hnil] at GE
        have GC := fun W (h : RefIs N W x hs) => ref_cut N W x hs h (Nat.le_trans HSM.out (by omega)) (endAt hs f) (s1, g1) hp
        simp only [hv] at GC
        have hlen : (hs.eraseIdx (endAt hs f)).length ≤ hs.length + 1 := by rw [List.length_eraseIdx]; split <;> omega
        have HPE := popped_erase (front := f) HND.out hnil
        have hel : endAt hs f < 100000 := by have := HSM.out; omega
        generalize endAt hs f = E at *
        have HPE := hide HPE
        have hE : decide ((E : Int) < 0) = false := decide_eq_false (by omega)
        have GE := hide GE
        have GC := hide GC
        clear hnil e1 hlt hp hlen
        go_wp2_with fail
        refine GE.out.mono ?_
        rintro e w4 ⟨rfl, t4⟩
        have hX4 := hide (hX3.out.below t4 hX3.out.lt)
        have L4 := hide (L3.out.below t4)
        have R4 := hide (R3.out.below t4)
        have B4 := hide (B3.out.trans (t4.mono hN3))
        have K4 := hide (show ∀ q cs, Has w q 42 cs → Has w4 q 42 cs from fun q cs hh => (K3.out q cs hh).below t4 (K3.out q cs hh).lt)
        clear t4 d3
        go_wp2_with fail
        generalize w2.heap.size = y at *
        have hRd : RefIs N w4.drew x hs := R4.out.below (Below.refl _ _).drew
        have hXd : Has w4.drew y 29 #[.int .i64 s1, .int .u64 g1] := hX4.out
        have k0 : w4.drew.cell? ⟨y, 0, none⟩ = some (.int .i64 s1) := hXd.cell 0
        have k1 : w4.drew.cell? ⟨y, 1, none⟩ = some (.int .u64 g1) := hXd.cell 1
        go_region_held3 (fun w' => w'.cell? ⟨y, 0, none⟩ = some (.int .i64 s1) ∧ w'.cell? ⟨y, 1, none⟩ = some (.int .u64 g1))
          (first
            | go_keep
            | exact ⟨hX6.cell 0, hX6.cell 1⟩)
          (first
            | (go_at_call 24; refine (GC.out _ hRd).mono ?_; rintro e w6 ⟨rfl, R6, q6⟩; have hX6 := handle_kept_x hXd hRd q6))
        have HB7 := hide (show Both N w6 b mb x (hs.eraseIdx E) from ⟨(show ListIs N w4.drew b mb (hs.eraseIdx E) from L4.out.below (Below.refl _ _).drew).turned_x hRd q6, R6⟩)
        have B7 := hide ((B4.out.trans (Below.refl N w4).drew).trans (turned_x_below hRd q6))
        have K7 := hide (show ∀ q cs, Has w q 42 cs → Has w6 q 42 cs from fun q cs hh => step_kept_x (w := w4.drew) (K4.out q cs hh) hRd q6)
        clear hRd hXd R6 q6 hX6 k0 k1
        go_wp2_with fail
        go_returns
        refine ⟨rfl, ?_, B7.out, K7.out⟩
        rw [show stepOf hs 1 (s, g) f = popped hs f by simp [stepOf], HPE.out]
        exact HB7.out
    · by_cases hd2 : d = 2
      · subst hd2
        have c0 := Q0.out.cell 0
        have c1 := Q0.out.cell 1
        have c2 := Q0.out.cell 2
        rw [hq] at c0 c1 c2
        have GA := ref_at N _ x hs H0.out.2 (Nat.le_trans HSM.out (by omega)) (s, g)
        have GR := fun W (h : ListIs N W b mb hs) => list_remove N W b mb hs h (s, g) HOK.out
        cases hat : hAt hs (s, g) with
        | some i =>
          have e1 : atOf hs (s, g) = i := by unfold atOf; rw [hat]
          have e2 : removed hs (s, g) = hs.eraseIdx i := by unfold removed; rw [hat]
          rw [e1] at GA
          simp only [e2, hat, Option.isSome] at GR
          have hil : i < 100000 := by have := (List.getElem?_eq_some_iff.1 (hAt_some hat)).1; have := HSM.out; omega
          have GC := hide (fun W (h : RefIs N W x hs) => ref_cut N W x hs h (Nat.le_trans HSM.out (by omega)) i (s, g) (hAt_some hat))
          have hi0 : decide (0 ≤ (i : Int)) = true := decide_eq_true (by omega)
          have GA := hide GA
          have GR := hide GR
          have HE2 := hide e2
          clear e1 e2 hat
          go_enter Try.func14, Try.ntmps14
          go_wp2_with fail
          refine GA.out.mono ?_
          rintro e w2 ⟨rfl, t2⟩
          have H2 := hide (H0.out.below t2)
          have hN0 : N ≤ (w.alloc (.cells #[.int .i64 2, .int .i64 s, .int .u64 g, .bool f] 42)).heap.size := Nat.le_trans H0.out.2.1 (Nat.le_of_lt H0.out.2.lt)
          have B2 := hide (B0.out.trans (t2.mono hN0))
          have Q2 := hide (Q0.out.below t2 Q0.out.lt)
          have K2 := hide (show ∀ q cs, Has w q 42 cs → Has w2 q 42 cs from fun q cs hh => (K0.out q cs hh).below t2 (K0.out q cs hh).lt)
          clear t2 c0 c1 c2
          go_wp2_with fail
          refine (GC.out _ H2.out.2).mono ?_
          rintro e w3 ⟨rfl, R3, q3⟩
          have hQ3 := step_kept_x Q2.out H2.out.2 q3
          have c1 : w3.cell? ⟨w.heap.size, 1, none⟩ = some (.int .i64 s) := by rw [← hq]; exact hQ3.cell 1
          have c2 : w3.cell? ⟨w.heap.size, 2, none⟩ = some (.int .u64 g) := by rw [← hq]; exact hQ3.cell 2
          have L3 := hide (H2.out.1.turned_x H2.out.2 q3)
          have B3 := hide (B2.out.trans (turned_x_below H2.out.2 q3))
          have R3 := hide R3
          have K3 := hide (show ∀ q cs, Has w q 42 cs → Has w3 q 42 cs from fun q cs hh => step_kept_x (K2.out q cs hh) H2.out.2 q3)
          clear q3 hQ3
          go_wp2_with fail
          refine (GR.out _ L3.out).mono ?_
          rintro e w4 ⟨rfl, L4, t4, q4⟩
          have HB4 := hide (show Both N w4 b mb x (hs.eraseIdx i) from ⟨L4, R3.out.turned q4⟩)
          have B4 := hide (B3.out.trans t4)
          have K4 := hide (show ∀ q cs, Has w q 42 cs → Has w4 q 42 cs from fun q cs hh => step_kept (K3.out q cs hh) q4)
          clear L4 t4 q4 c1 c2
          go_wp2_with fail
          go_returns
          refine ⟨rfl, ?_, B4.out, K4.out⟩
          rw [show stepOf hs 2 (s, g) f = removed hs (s, g) by simp [stepOf], HE2.out]
          exact HB4.out
        | none =>
          have e1 : atOf hs (s, g) = -1 := by unfold atOf; rw [hat]
          have e2 : removed hs (s, g) = hs := by unfold removed; rw [hat]
          rw [e1] at GA
          simp only [e2, hat, Option.isSome] at GR
          have GA := hide GA
          have GR := hide GR
          have HE2 := hide e2
          clear e1 e2 hat
          go_enter Try.func14, Try.ntmps14
          go_wp2_with fail
          refine GA.out.mono ?_
          rintro e w2 ⟨rfl, t2⟩
          have H2 := hide (H0.out.below t2)
          have hN0 : N ≤ (w.alloc (.cells #[.int .i64 2, .int .i64 s, .int .u64 g, .bool f] 42)).heap.size := Nat.le_trans H0.out.2.1 (Nat.le_of_lt H0.out.2.lt)
          have B2 := hide (B0.out.trans (t2.mono hN0))
          have hQ2 := Q0.out.below t2 Q0.out.lt
          have K2 := hide (show ∀ q cs, Has w q 42 cs → Has w2 q 42 cs from fun q cs hh => (K0.out q cs hh).below t2 (K0.out q cs hh).lt)
          have c3 : w2.cell? ⟨w.heap.size, 1, none⟩ = some (.int .i64 s) := by rw [← hq]; exact hQ2.cell 1
          have c4 : w2.cell? ⟨w.heap.size, 2, none⟩ = some (.int .u64 g) := by rw [← hq]; exact hQ2.cell 2
          clear t2 c0 c1 c2 hQ2
          go_wp2_with fail
          refine (GR.out _ H2.out.1).mono ?_
          rintro e w4 ⟨rfl, L4, t4, q4⟩
          have HB4 := hide (show Both N w4 b mb x hs from ⟨L4, H2.out.2.turned q4⟩)
          have B4 := hide (B2.out.trans t4)
          have K4 := hide (show ∀ q cs, Has w q 42 cs → Has w4 q 42 cs from fun q cs hh => step_kept (K2.out q cs hh) q4)
          clear L4 t4 q4 c3 c4
          go_wp2_with fail
          go_returns
          refine ⟨rfl, ?_, B4.out, K4.out⟩
          rw [show stepOf hs 2 (s, g) f = removed hs (s, g) by simp [stepOf], HE2.out]
          exact HB4.out
      · have e0 : decide (d = 0) = false := decide_eq_false hd0
        have e1 : decide (d = 1) = false := decide_eq_false hd1
        have e2 : decide (d = 2) = false := decide_eq_false hd2
        go_enter Try.func14, Try.ntmps14
        go_wp2_with fail
        go_returns
        refine ⟨rfl, ?_, B0.out, K0.out⟩
        rw [show stepOf hs d (s, g) f = hs by simp [stepOf, hd0, hd1, hd2]]
        exact H0.out


end Go.Proofs.Ytagminbfboncoaa
