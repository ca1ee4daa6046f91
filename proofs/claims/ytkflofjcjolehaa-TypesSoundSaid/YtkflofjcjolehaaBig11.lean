/- Types: lemmas on what the functions that the laws reach answer. No conditions of their own beyond those that each theorem states. -/
import Derived.Test.YtkflofjcjolehaaBig5
import Derived.Test.YtkflofjcjolehaaBig10
/-! Types: field. -/
namespace Go.Proofs.Ytkflofjcjolehaa
open Go.RowKit Go.Proofs.YtkflofjcjolehaaW.PrintWords
set_option maxHeartbeats 4000000
set_option maxRecDepth 100000
set_option linter.unusedSimpArgs false
set_option linter.unusedVariables false

theorem C_take {α : Type} {d : Kd α} {w : World} {A : Option Addr} {n : Nat} {xs : List α} (h : d.C w A n xs) (k : Nat) (hk : k ≤ n) : d.C w A k (xs.take k) := by
  refine ⟨by rw [List.length_take, h.1]; omega, by have := h.2.1; omega, fun hn => ?_⟩
  obtain ⟨ad, e, hx⟩ := h.2.2 (by omega)
  refine ⟨ad, e, fun j p hj => ?_⟩
  rw [List.getElem?_take] at hj
  split at hj
  · exact hx j p hj
  · cases hj

/-- What is wrong with a field, by those ahead of it. -/
def fieldF (sz : Int) (fs : List Fl) (k : Nat) : Int :=
  let f := fs.getD k zF
  if nameMay f.nm = false then 100 else if (fs.take k).any (fun g => g.nm.toList == f.nm.toList) = true then 104 else if szK f.kd = 0 then 102
  else if f.at_ < 0 ∨ Int.tmod f.at_ 8 ≠ 0 ∨ f.at_ > sz ∨ szK f.kd > wrap64 (sz - f.at_) then 103
  else if (fs.take k).any (fun g => flMeets g f.at_ (szK f.kd)) = true then 103
  else if (f.kd = 7 ∨ f.kd = 6) ∧ (fs.take k).any (fun g => g.kd == f.kd) = true then 104 else 0

theorem ty_field (w : World) (nm : ByteArray) (sz : Int) (A : Option Addr) (c : Nat) (fs : List Fl) (n : Nat) (hl : fs.length = n) (hC : kF.C w A n fs) (hc : n ≤ c) (k : Nat) (hk : k < n) (hsm : ∀ f ∈ fs, f.nm.size ≤ 9223372036854775806) :
    Calls Try.prog 64 #[.agg #[.string nm, .int .i64 sz, .slice A n c], .int .i64 k] w fun e w' => e = .returned (.int .i64 (fieldF sz fs k)) ∧ Below w.heap.size w w' := by
  obtain ⟨f, hf⟩ : ∃ x, fs[k]? = some x := ⟨_, List.getElem?_eq_getElem (by omega)⟩
  obtain ⟨cb, off, rfl, e0, e1, e2, e3, e4⟩ := fl_at hC (below_box w (.cells #[.string nm, .int .i64 sz, .slice A n c] 44)) hf
  have hk1 : (k : Int) < n := by omega
  have hk0 : (0 : Int) ≤ k := by omega
  have hkc : (k : Int) ≤ c := by omega
  have hg : fs.getD k zF = f := by rw [List.getD_eq_getElem?_getD, hf]; rfl
  have hnc : cb < w.heap.size := by
    rcases kd_rows hC (by decide) with rfl | ⟨b, off, h, hlt, _⟩
    · simp at hf
    · cases h; exact hlt
  have hne : cb ≠ w.heap.size + 1 := by omega
  have hne' : w.heap.size ≠ w.heap.size + 1 := by omega
  have b0 := new_cell w #[.string nm, .int .i64 sz, .slice (some ⟨cb, off, none⟩) n c] 44 0 _ rfl
  have b1 := new_cell w #[.string nm, .int .i64 sz, .slice (some ⟨cb, off, none⟩) n c] 44 1 _ rfl
  have b2 := new_cell w #[.string nm, .int .i64 sz, .slice (some ⟨cb, off, none⟩) n c] 44 2 _ rfl
  have z_e0 := cell_on e0 (.cells #[.string ⟨#[]⟩, .int .u8 0, .int .i64 0, .int .i64 0, .int .i64 0] 46)
  have z_e1 := cell_on e1 (.cells #[.string ⟨#[]⟩, .int .u8 0, .int .i64 0, .int .i64 0, .int .i64 0] 46)
  have z_e2 := cell_on e2 (.cells #[.string ⟨#[]⟩, .int .u8 0, .int .i64 0, .int .i64 0, .int .i64 0] 46)
  have z_e3 := cell_on e3 (.cells #[.string ⟨#[]⟩, .int .u8 0, .int .i64 0, .int .i64 0, .int .i64 0] 46)
  have z_e4 := cell_on e4 (.cells #[.string ⟨#[]⟩, .int .u8 0, .int .i64 0, .int .i64 0, .int .i64 0] 46)
  have z_b0 := cell_on b0 (.cells #[.string ⟨#[]⟩, .int .u8 0, .int .i64 0, .int .i64 0, .int .i64 0] 46)
  have z_b1 := cell_on b1 (.cells #[.string ⟨#[]⟩, .int .u8 0, .int .i64 0, .int .i64 0, .int .i64 0] 46)
  have z_b2 := cell_on b2 (.cells #[.string ⟨#[]⟩, .int .u8 0, .int .i64 0, .int .i64 0, .int .i64 0] 46)
  have HC := hide hC
  have HL := hide hl
  have HF := hide hf
  have HG := hide hg
  clear hC hl hf hg hnc
  go_enter Try.func64, Try.ntmps64
  go_wp2_with fail
  go_region
  obtain ⟨W1, hW1⟩ : ∃ W1, W1 = ((w.alloc (.cells #[.string nm, .int .i64 sz, .slice (some ⟨cb, off, none⟩) n c] 44)).alloc (.cells #[.string f.nm, .int .u8 f.kd, .int .i64 f.at_, .int .i64 f.of, .int .i64 f.node] 46)).drew := ⟨_, rfl⟩
  have B1 : Hid (Below w.heap.size w W1) := by rw [hW1]; exact hide (bel_trans (below_box w _) (below_box _ _)).drew
  have P : ∀ i v, #[Value.string f.nm, .int .u8 f.kd, .int .i64 f.at_, .int .i64 f.of, .int .i64 f.node][i]? = some v → W1.cell? ⟨w.heap.size + 1, i, none⟩ = some v := fun i v h => by
    rw [hW1]
    have := new_cell (w.alloc (.cells #[.string nm, .int .i64 sz, .slice (some ⟨cb, off, none⟩) n c] 44)) #[.string f.nm, .int .u8 f.kd, .int .i64 f.at_, .int .i64 f.of, .int .i64 f.node] 46 i v h
    rw [World.size_alloc] at this
    exact this
  have q1 : W1.cell? ⟨w.heap.size, 1, none⟩ = some (.int .i64 sz) := by
    rw [hW1]
    exact cell_on b1 (.cells #[.string f.nm, .int .u8 f.kd, .int .i64 f.at_, .int .i64 f.of, .int .i64 f.node] 46)
  rw [← hW1]
  clear hW1 e0 e1 e2 e3 e4 b0 b1 b2 z_e0 z_e1 z_e2 z_e3 z_e4 z_b0 z_b1 z_b2
  have p0 := P 0 _ rfl
  have p1 := P 1 _ rfl
  have p2 := P 2 _ rfl
  clear P
  obtain ⟨q, hq⟩ : ∃ q, w.heap.size + 1 = q := ⟨_, rfl⟩
  obtain ⟨q', hq'⟩ : ∃ q', w.heap.size = q' := ⟨_, rfl⟩
  rw [hq] at p0 p1 p2 ⊢
  rw [hq'] at q1 ⊢
  have hQ := hide hq
  have hQ' := hide hq'
  clear hq hq' hne hne'
  obtain ⟨z, hz⟩ : ∃ z, szK f.kd = z := ⟨_, rfl⟩
  have HS := hide (fun w => ty_size w f.kd)
  rw [hz] at HS
  have r0 := cell_on p0 (.cells #[.int .i64 z] 3)
  have u0 := r0
  have r1 := cell_on p1 (.cells #[.int .i64 z] 3)
  have r2 := cell_on p2 (.cells #[.int .i64 z] 3)
  have rs := cell_on q1 (.cells #[.int .i64 z] 3)
  have rz := new_cell W1 #[.int .i64 z] 3 0 _ rfl
  obtain ⟨d, hd⟩ : ∃ d, W1.heap.size = d := ⟨_, rfl⟩
  obtain ⟨W2, hW2⟩ : ∃ W2, W2 = W1.alloc (.cells #[.int .i64 z] 3) := ⟨_, rfl⟩
  have B2 : Hid (Below W1.heap.size W1 W2) := by rw [hW2]; exact hide (below_box _ _)
  rw [← hW2] at r0 r1 r2 rs rz
  rw [hd] at rz
  have HC2 : Hid (kF.C W2 (some ⟨cb, off, none⟩) k (fs.take k)) := hide (C_take (Kd.C_below HC.out (bel_trans B1.out B2.out)) k (by omega))
  have hlk : Hid ((fs.take k).length = k) := hide (by rw [List.length_take]; have := HL.out; omega)
  have HM := hide (fun W => name_may W f.nm (hsm f (List.mem_of_getElem? HF.out)))
  have H2 := hide (fun W (hW : Below W2.heap.size W2 W) => fl_containsFunc 82 #[.pointer (some ⟨q, 0, none⟩)] (fun args w => by rfl) (fun g => g.nm.toList == f.nm.toList) W (some ⟨cb, off, none⟩) c (fs.take k) k hlk.out (Kd.C_below HC2.out hW)
    (fun j y wr hj hb => (field_2 wr q f y (cell_bel (cell_bel r0 hW) hb)).mono fun e w' ⟨he, hb'⟩ => ⟨he, bel_trans hb hb'⟩))
  have H3 := hide (fun W (hW : Below W2.heap.size W2 W) => fl_containsFunc 83 #[.pointer (some ⟨q, 0, none⟩), .pointer (some ⟨d, 0, none⟩)] (fun args w => by rfl) (fun g => flMeets g f.at_ z) W (some ⟨cb, off, none⟩) c (fs.take k) k hlk.out (Kd.C_below HC2.out hW)
    (fun j y wr hj hb => (field_3 wr q d f y z (cell_bel (cell_bel r2 hW) hb) (cell_bel (cell_bel rz hW) hb)).mono fun e w' ⟨he, hb'⟩ => ⟨he, bel_trans hb hb'⟩))
  have H1 := hide (fun W (hW : Below W2.heap.size W2 W) => fl_containsFunc 81 #[.pointer (some ⟨q, 0, none⟩)] (fun args w => by rfl) (fun g => g.kd == f.kd) W (some ⟨cb, off, none⟩) c (fs.take k) k hlk.out (Kd.C_below HC2.out hW)
    (fun j y wr hj hb => (field_1 wr q f y (cell_bel (cell_bel r1 hW) hb)).mono fun e w' ⟨he, hb'⟩ => ⟨he, bel_trans hb hb'⟩))
  obtain ⟨R, hRR⟩ : ∃ R, fieldF sz fs k = R := ⟨_, rfl⟩
  have hR := hRR
  unfold fieldF at hR
  simp only [HG.out, hz] at hR
  obtain ⟨m, hm⟩ : ∃ m, nameMay f.nm = m := ⟨_, rfl⟩
  obtain ⟨a2, ha2⟩ : ∃ a, ((fs.take k).any fun g => g.nm.toList == f.nm.toList) = a := ⟨_, rfl⟩
  obtain ⟨a3, ha3⟩ : ∃ a, ((fs.take k).any fun g => flMeets g f.at_ z) = a := ⟨_, rfl⟩
  obtain ⟨a1, ha1⟩ : ∃ a, ((fs.take k).any fun g => g.kd == f.kd) = a := ⟨_, rfl⟩
  rw [hm, ha2, ha3, ha1] at hR
  rw [hm] at HM
  rw [ha2] at H2
  rw [ha3] at H3
  rw [ha1] at H1
  clear hm ha2 ha3 ha1 hz HG HL HF hsm HC2 hlk HC
  have hR := hide hR
  have hRR := hide hRR
  have hW2 := hide hW2
  have hd := hide hd
  -- p: the cells at W1, at the rest
  cases k7 : (f.kd == 7) with
  | true =>
    have HK := hide (show f.kd = 7 ∨ f.kd = 6 from .inl (beq_iff_eq.1 k7))
    go_wp2_with fail
    refine (HS.out _).mono ?_
    rintro e w1 ⟨rfl, rfl⟩
    clear HS
    try rw [hd.out]
    go_wp2_with fail
    try rw [← hW2.out]
    try rw [hd.out]
    refine (HM.out _).mono ?_
    rintro e wa ⟨rfl, hb0⟩
    have hBa : Below W2.heap.size W2 wa := hb0
    have hB1 := hide (bel_trans (bel_trans B1.out B2.out) hBa)
    have r0_a := cell_bel r0 hBa
    have r1_a := cell_bel r1 hBa
    have r2_a := cell_bel r2 hBa
    have rs_a := cell_bel rs hBa
    have rz_a := cell_bel rz hBa
    cases m with
    | false =>
      go_wp2_with fail
      go_ret
      exact ⟨by rw [hRR.out, show R = 100 by rw [← hR.out]; simp]; rfl, hB1.out⟩
    | true =>
      go_wp2_with fail
      refine (H2.out _ hBa).mono ?_
      rintro e wb ⟨rfl, hb1⟩
      have hBb : Below W2.heap.size W2 wb := bel_trans hBa hb1
      have hB2 := hide (bel_trans hB1.out hb1)
      have r0_b := cell_bel r0 hBb
      have r1_b := cell_bel r1 hBb
      have r2_b := cell_bel r2 hBb
      have rs_b := cell_bel rs hBb
      have rz_b := cell_bel rz hBb
      cases a2 with
      | true =>
        go_wp2_with fail
        go_ret
        exact ⟨by rw [hRR.out, show R = 104 by rw [← hR.out]; simp]; rfl, hB2.out⟩
      | false =>
        by_cases hz0 : z = 0
        · subst hz0
          go_wp2_with fail
          go_ret
          exact ⟨by rw [hRR.out, show R = 102 by rw [← hR.out]; simp]; rfl, hB2.out⟩
        have z0 : (z == 0) = false := beq_eq_false_iff_ne.2 hz0
        have HZ := hide hz0
        clear hz0
        by_cases h1 : f.at_ < 0
        · have g1 : decide (f.at_ < 0) = true := decide_eq_true h1
          have Hh1 := hide h1
          clear h1
          go_wp2_with fail
          go_ret
          exact ⟨by rw [hRR.out, show R = 103 by rw [← hR.out]; simp [HZ.out, Hh1.out]]; rfl, hB2.out⟩
        have g1 : decide (f.at_ < 0) = false := decide_eq_false h1
        have Hh1 := hide h1
        clear h1
        by_cases h2 : Int.tmod f.at_ 8 ≠ 0
        · have g2 : (Int.tmod f.at_ 8 != 0) = true := bne_iff_ne.2 h2
          have g2b : (Int.tmod f.at_ 8 == 0) = false := beq_eq_false_iff_ne.2 h2
          have Hh2 := hide h2
          clear h2
          go_wp2_with fail
          go_ret
          exact ⟨by rw [hRR.out, show R = 103 by rw [← hR.out]; simp [HZ.out, Hh2.out]]; rfl, hB2.out⟩
        have g2 : (Int.tmod f.at_ 8 != 0) = false := by simpa using h2
        have g2b : (Int.tmod f.at_ 8 == 0) = true := by simpa using h2
        have Hh2 := hide h2
        clear h2
        by_cases h3 : f.at_ > sz
        · have g3 : decide (sz < f.at_) = true := decide_eq_true h3
          have Hh3 := hide h3
          clear h3
          go_wp2_with fail
          go_ret
          exact ⟨by rw [hRR.out, show R = 103 by rw [← hR.out]; simp [HZ.out, Hh3.out]]; rfl, hB2.out⟩
        have g3 : decide (sz < f.at_) = false := decide_eq_false h3
        have Hh3 := hide h3
        clear h3
        by_cases h4 : z > wrap64 (sz - f.at_)
        · have g4 : decide (wrap64 (sz - f.at_) < z) = true := decide_eq_true h4
          have g4' : decide (IntKind.i64.wrap (sz - f.at_) < z) = true := by rw [w64]; exact g4
          have Hh4 := hide h4
          clear h4
          go_wp2_with fail
          go_ret
          exact ⟨by rw [hRR.out, show R = 103 by rw [← hR.out]; simp [HZ.out, Hh4.out]]; rfl, hB2.out⟩
        have g4 : decide (wrap64 (sz - f.at_) < z) = false := decide_eq_false h4
        have g4' : decide (IntKind.i64.wrap (sz - f.at_) < z) = false := by rw [w64]; exact g4
        have Hh4 := hide h4
        clear h4
        go_wp2_with fail
        refine (H3.out _ hBb).mono ?_
        rintro e wc ⟨rfl, hb2⟩
        have hBc : Below W2.heap.size W2 wc := bel_trans hBb hb2
        have hB3 := hide (bel_trans hB2.out hb2)
        cases a3 with
        | true =>
          go_wp2_with fail
          go_ret
          exact ⟨by rw [hRR.out, show R = 103 by rw [← hR.out]; simp [HZ.out, Hh1.out, Hh2.out, Hh3.out, Hh4.out]]; rfl, hB3.out⟩
        | false =>
          go_wp2_with fail
          refine (H1.out _ hBc).mono ?_
          rintro e wd ⟨rfl, hb3⟩
          have hB4 := hide (bel_trans hB3.out hb3)
          cases a1 with
          | true =>
            go_wp2_with fail
            go_ret
            exact ⟨by rw [hRR.out, show R = 104 by rw [← hR.out]; simp [HZ.out, Hh1.out, Hh2.out, Hh3.out, Hh4.out, HK.out]]; rfl, hB4.out⟩
          | false =>
            go_wp2_with fail
            go_ret
            exact ⟨by rw [hRR.out, show R = 0 by rw [← hR.out]; simp [HZ.out, Hh1.out, Hh2.out, Hh3.out, Hh4.out]]; rfl, hB4.out⟩
  | false =>
    cases k6 : (f.kd == 6) with
    | true =>
      have HK := hide (show f.kd = 7 ∨ f.kd = 6 from .inr (beq_iff_eq.1 k6))
      go_wp2_with fail
      refine (HS.out _).mono ?_
      rintro e w1 ⟨rfl, rfl⟩
      clear HS
      try rw [hd.out]
      go_wp2_with fail
      try rw [← hW2.out]
      try rw [hd.out]
      refine (HM.out _).mono ?_
      rintro e wa ⟨rfl, hb0⟩
      have hBa : Below W2.heap.size W2 wa := hb0
      have hB1 := hide (bel_trans (bel_trans B1.out B2.out) hBa)
      have r0_a := cell_bel r0 hBa
      have r1_a := cell_bel r1 hBa
      have r2_a := cell_bel r2 hBa
      have rs_a := cell_bel rs hBa
      have rz_a := cell_bel rz hBa
      cases m with
      | false =>
        go_wp2_with fail
        go_ret
        exact ⟨by rw [hRR.out, show R = 100 by rw [← hR.out]; simp]; rfl, hB1.out⟩
      | true =>
        go_wp2_with fail
        refine (H2.out _ hBa).mono ?_
        rintro e wb ⟨rfl, hb1⟩
        have hBb : Below W2.heap.size W2 wb := bel_trans hBa hb1
        have hB2 := hide (bel_trans hB1.out hb1)
        have r0_b := cell_bel r0 hBb
        have r1_b := cell_bel r1 hBb
        have r2_b := cell_bel r2 hBb
        have rs_b := cell_bel rs hBb
        have rz_b := cell_bel rz hBb
        cases a2 with
        | true =>
          go_wp2_with fail
          go_ret
          exact ⟨by rw [hRR.out, show R = 104 by rw [← hR.out]; simp]; rfl, hB2.out⟩
        | false =>
          by_cases hz0 : z = 0
          · subst hz0
            go_wp2_with fail
            go_ret
            exact ⟨by rw [hRR.out, show R = 102 by rw [← hR.out]; simp]; rfl, hB2.out⟩
          have z0 : (z == 0) = false := beq_eq_false_iff_ne.2 hz0
          have HZ := hide hz0
          clear hz0
          by_cases h1 : f.at_ < 0
          · have g1 : decide (f.at_ < 0) = true := decide_eq_true h1
            have Hh1 := hide h1
            clear h1
            go_wp2_with fail
            go_ret
            exact ⟨by rw [hRR.out, show R = 103 by rw [← hR.out]; simp [HZ.out, Hh1.out]]; rfl, hB2.out⟩
          have g1 : decide (f.at_ < 0) = false := decide_eq_false h1
          have Hh1 := hide h1
          clear h1
          by_cases h2 : Int.tmod f.at_ 8 ≠ 0
          · have g2 : (Int.tmod f.at_ 8 != 0) = true := bne_iff_ne.2 h2
            have g2b : (Int.tmod f.at_ 8 == 0) = false := beq_eq_false_iff_ne.2 h2
            have Hh2 := hide h2
            clear h2
            go_wp2_with fail
            go_ret
            exact ⟨by rw [hRR.out, show R = 103 by rw [← hR.out]; simp [HZ.out, Hh2.out]]; rfl, hB2.out⟩
          have g2 : (Int.tmod f.at_ 8 != 0) = false := by simpa using h2
          have g2b : (Int.tmod f.at_ 8 == 0) = true := by simpa using h2
          have Hh2 := hide h2
          clear h2
          by_cases h3 : f.at_ > sz
          · have g3 : decide (sz < f.at_) = true := decide_eq_true h3
            have Hh3 := hide h3
            clear h3
            go_wp2_with fail
            go_ret
            exact ⟨by rw [hRR.out, show R = 103 by rw [← hR.out]; simp [HZ.out, Hh3.out]]; rfl, hB2.out⟩
          have g3 : decide (sz < f.at_) = false := decide_eq_false h3
          have Hh3 := hide h3
          clear h3
          by_cases h4 : z > wrap64 (sz - f.at_)
          · have g4 : decide (wrap64 (sz - f.at_) < z) = true := decide_eq_true h4
            have g4' : decide (IntKind.i64.wrap (sz - f.at_) < z) = true := by rw [w64]; exact g4
            have Hh4 := hide h4
            clear h4
            go_wp2_with fail
            go_ret
            exact ⟨by rw [hRR.out, show R = 103 by rw [← hR.out]; simp [HZ.out, Hh4.out]]; rfl, hB2.out⟩
          have g4 : decide (wrap64 (sz - f.at_) < z) = false := decide_eq_false h4
          have g4' : decide (IntKind.i64.wrap (sz - f.at_) < z) = false := by rw [w64]; exact g4
          have Hh4 := hide h4
          clear h4
          go_wp2_with fail
          refine (H3.out _ hBb).mono ?_
          rintro e wc ⟨rfl, hb2⟩
          have hBc : Below W2.heap.size W2 wc := bel_trans hBb hb2
          have hB3 := hide (bel_trans hB2.out hb2)
          cases a3 with
          | true =>
            go_wp2_with fail
            go_ret
            exact ⟨by rw [hRR.out, show R = 103 by rw [← hR.out]; simp [HZ.out, Hh1.out, Hh2.out, Hh3.out, Hh4.out]]; rfl, hB3.out⟩
          | false =>
            go_wp2_with fail
            refine (H1.out _ hBc).mono ?_
            rintro e wd ⟨rfl, hb3⟩
            have hB4 := hide (bel_trans hB3.out hb3)
            cases a1 with
            | true =>
              go_wp2_with fail
              go_ret
              exact ⟨by rw [hRR.out, show R = 104 by rw [← hR.out]; simp [HZ.out, Hh1.out, Hh2.out, Hh3.out, Hh4.out, HK.out]]; rfl, hB4.out⟩
            | false =>
              go_wp2_with fail
              go_ret
              exact ⟨by rw [hRR.out, show R = 0 by rw [← hR.out]; simp [HZ.out, Hh1.out, Hh2.out, Hh3.out, Hh4.out]]; rfl, hB4.out⟩
    | false =>
      have HK7 := hide (beq_eq_false_iff_ne.1 k7)
      have HK6 := hide (beq_eq_false_iff_ne.1 k6)
      go_wp2_with fail
      refine (HS.out _).mono ?_
      rintro e w1 ⟨rfl, rfl⟩
      clear HS
      try rw [hd.out]
      go_wp2_with fail
      try rw [← hW2.out]
      try rw [hd.out]
      refine (HM.out _).mono ?_
      rintro e wa ⟨rfl, hb0⟩
      have hBa : Below W2.heap.size W2 wa := hb0
      have hB1 := hide (bel_trans (bel_trans B1.out B2.out) hBa)
      have r0_a := cell_bel r0 hBa
      have r1_a := cell_bel r1 hBa
      have r2_a := cell_bel r2 hBa
      have rs_a := cell_bel rs hBa
      have rz_a := cell_bel rz hBa
      cases m with
      | false =>
        go_wp2_with fail
        go_ret
        exact ⟨by rw [hRR.out, show R = 100 by rw [← hR.out]; simp]; rfl, hB1.out⟩
      | true =>
        go_wp2_with fail
        refine (H2.out _ hBa).mono ?_
        rintro e wb ⟨rfl, hb1⟩
        have hBb : Below W2.heap.size W2 wb := bel_trans hBa hb1
        have hB2 := hide (bel_trans hB1.out hb1)
        have r0_b := cell_bel r0 hBb
        have r1_b := cell_bel r1 hBb
        have r2_b := cell_bel r2 hBb
        have rs_b := cell_bel rs hBb
        have rz_b := cell_bel rz hBb
        cases a2 with
        | true =>
          go_wp2_with fail
          go_ret
          exact ⟨by rw [hRR.out, show R = 104 by rw [← hR.out]; simp]; rfl, hB2.out⟩
        | false =>
          by_cases hz0 : z = 0
          · subst hz0
            go_wp2_with fail
            go_ret
            exact ⟨by rw [hRR.out, show R = 102 by rw [← hR.out]; simp]; rfl, hB2.out⟩
          have z0 : (z == 0) = false := beq_eq_false_iff_ne.2 hz0
          have HZ := hide hz0
          clear hz0
          by_cases h1 : f.at_ < 0
          · have g1 : decide (f.at_ < 0) = true := decide_eq_true h1
            have Hh1 := hide h1
            clear h1
            go_wp2_with fail
            go_ret
            exact ⟨by rw [hRR.out, show R = 103 by rw [← hR.out]; simp [HZ.out, Hh1.out]]; rfl, hB2.out⟩
          have g1 : decide (f.at_ < 0) = false := decide_eq_false h1
          have Hh1 := hide h1
          clear h1
          by_cases h2 : Int.tmod f.at_ 8 ≠ 0
          · have g2 : (Int.tmod f.at_ 8 != 0) = true := bne_iff_ne.2 h2
            have g2b : (Int.tmod f.at_ 8 == 0) = false := beq_eq_false_iff_ne.2 h2
            have Hh2 := hide h2
            clear h2
            go_wp2_with fail
            go_ret
            exact ⟨by rw [hRR.out, show R = 103 by rw [← hR.out]; simp [HZ.out, Hh2.out]]; rfl, hB2.out⟩
          have g2 : (Int.tmod f.at_ 8 != 0) = false := by simpa using h2
          have g2b : (Int.tmod f.at_ 8 == 0) = true := by simpa using h2
          have Hh2 := hide h2
          clear h2
          by_cases h3 : f.at_ > sz
          · have g3 : decide (sz < f.at_) = true := decide_eq_true h3
            have Hh3 := hide h3
            clear h3
            go_wp2_with fail
            go_ret
            exact ⟨by rw [hRR.out, show R = 103 by rw [← hR.out]; simp [HZ.out, Hh3.out]]; rfl, hB2.out⟩
          have g3 : decide (sz < f.at_) = false := decide_eq_false h3
          have Hh3 := hide h3
          clear h3
          by_cases h4 : z > wrap64 (sz - f.at_)
          · have g4 : decide (wrap64 (sz - f.at_) < z) = true := decide_eq_true h4
            have g4' : decide (IntKind.i64.wrap (sz - f.at_) < z) = true := by rw [w64]; exact g4
            have Hh4 := hide h4
            clear h4
            go_wp2_with fail
            go_ret
            exact ⟨by rw [hRR.out, show R = 103 by rw [← hR.out]; simp [HZ.out, Hh4.out]]; rfl, hB2.out⟩
          have g4 : decide (wrap64 (sz - f.at_) < z) = false := decide_eq_false h4
          have g4' : decide (IntKind.i64.wrap (sz - f.at_) < z) = false := by rw [w64]; exact g4
          have Hh4 := hide h4
          clear h4
          go_wp2_with fail
          refine (H3.out _ hBb).mono ?_
          rintro e wc ⟨rfl, hb2⟩
          have hBc : Below W2.heap.size W2 wc := bel_trans hBb hb2
          have hB3 := hide (bel_trans hB2.out hb2)
          cases a3 with
          | true =>
            go_wp2_with fail
            go_ret
            exact ⟨by rw [hRR.out, show R = 103 by rw [← hR.out]; simp [HZ.out, Hh1.out, Hh2.out, Hh3.out, Hh4.out]]; rfl, hB3.out⟩
          | false =>
            go_wp2_with fail
            go_ret
            exact ⟨by rw [hRR.out, show R = 0 by rw [← hR.out]; simp [HZ.out, Hh1.out, Hh2.out, Hh3.out, Hh4.out, HK7.out, HK6.out]]; rfl, hB3.out⟩
end Go.Proofs.Ytkflofjcjolehaa
