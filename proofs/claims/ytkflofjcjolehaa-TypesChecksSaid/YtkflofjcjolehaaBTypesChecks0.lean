/- Types: lemmas on what the functions that the laws reach answer. No conditions of their own beyond those that each theorem states. -/
import Derived.Test.YtkflofjcjolehaaBig13
import Derived.Test.YtkflofjcjolehaaBig15
/-! Types: the document's Size, some, Has, Object, Value, Of. -/
namespace Go.Proofs.Ytkflofjcjolehaa
open Go.RowKit Go.Proofs.YtkflofjcjolehaaW.PrintWords
set_option maxHeartbeats 4000000
set_option maxRecDepth 100000
set_option linter.unusedSimpArgs false
set_option linter.unusedVariables false

theorem rf_size (w : World) (k : Int) : Calls Try.prog 84 #[.int .u8 k] w fun e w' => e = .returned (.int .i64 (szK k)) ∧ w = w' := by
  by_cases h : k = 1 ∨ k = 6 ∨ k = 7 ∨ k = 2 ∨ k = 3 ∨ k = 4 ∨ k = 5
  · rcases h with rfl | rfl | rfl | rfl | rfl | rfl | rfl <;>
    · go_enter Try.func84, Try.ntmps84
      go_wp2_with fail
      go_ret
      exact ⟨rfl, rfl⟩
  · have e : szK k = 0 := by
      unfold szK
      rw [if_neg (by omega), if_neg (by omega)]
    rw [e]
    have h1 : (k == 1) = false := beq_eq_false_iff_ne.2 (by omega)
    have h2 : (k == 2) = false := beq_eq_false_iff_ne.2 (by omega)
    have h3 : (k == 3) = false := beq_eq_false_iff_ne.2 (by omega)
    have h4 : (k == 4) = false := beq_eq_false_iff_ne.2 (by omega)
    have h5 : (k == 5) = false := beq_eq_false_iff_ne.2 (by omega)
    have h6 : (k == 6) = false := beq_eq_false_iff_ne.2 (by omega)
    have h7 : (k == 7) = false := beq_eq_false_iff_ne.2 (by omega)
    clear h e
    go_enter Try.func84, Try.ntmps84
    go_wp2_with fail
    go_ret
    exact ⟨rfl, rfl⟩

theorem rf_some (w : World) (nm : ByteArray) (sz : Int) (A : Option Addr) (c : Nat) (l : List Fl) (n : Nat) (hl : l.length = n) (hC : kF.C w A n l) (a b d : Int) :
    Calls Try.prog 73 #[.agg #[.string nm, .int .i64 sz, .slice A n c], .int .u8 a, .int .u8 b, .int .u8 d] w fun e w' => e = .returned (.bool (hasK l [a, b, d])) ∧ Below w.heap.size w w' := by
  have hn : (n : Int) ≤ 9223372036854775807 := by have := hC.2.1; omega
  have HL := hide hl
  have HC := hide hC
  have HG := hide (Has.new w 44 #[.string nm, .int .i64 sz, .slice A n c])
  have HB := hide (below_box w (.cells #[.string nm, .int .i64 sz, .slice A n c] 44))
  obtain ⟨R, hR⟩ : ∃ R, hasK l [a, b, d] = R := ⟨_, rfl⟩
  rw [hR]
  have HR := hide hR
  clear hl hC hR
  go_enter Try.func73, Try.ntmps73
  go_wp2_with fail
  obtain ⟨g, hg⟩ : ∃ g, w.heap.size = g := ⟨_, rfl⟩
  rw [hg] at HG
  rw [hg]
  have HGG := hide hg
  clear hg
  go_loopw [9] (fun x wr => ∃ (k : Nat), k ≤ n ∧ x = .int .i64 k ∧ (∀ j y, j < k → l[j]? = some y → ([a, b, d].any fun k => y.kd == k) = false) ∧ Has wr g 44 #[.string nm, .int .i64 sz, .slice A n c] ∧ Below w.heap.size w wr) (fun x _ => n - (intOf x).toNat)
  case atStart => exact ⟨0, Nat.zero_le _, rfl, fun j y hj => by omega, HG.out, HB.out⟩
  case round =>
    clear HG HB
    obtain ⟨k, hk, rfl, hall, hH, hB⟩ := hrel
    have HALL := hide hall
    have HH := hide hH
    have HBB := hide hB
    have g2 := hH.cell 2
    simp at g2
    clear hall hH
    by_cases hkn : k < n
    · have hk1 : (k : Int) < n := by omega
      have hk0 : (0 : Int) ≤ k := by omega
      obtain ⟨f, hf⟩ : ∃ x, l[k]? = some x := ⟨_, List.getElem?_eq_getElem (by rw [HL.out]; exact hkn)⟩
      obtain ⟨fb, fo, rfl, e0, e1, e2, e3, e4⟩ := fl_at HC.out hB hf
      have HF := hide hf
      clear hf hB e0 e2 e3 e4
      have yes : ∀ (h : ([a, b, d].any fun k => f.kd == k) = true), R = true := fun h => by
        rw [← HR.out]
        unfold hasK
        exact List.any_eq_true.2 ⟨f, List.mem_of_getElem? HF.out, h⟩
      have HY := hide yes
      clear yes
      by_cases h1 : f.kd = a
      · have d1 : (f.kd == a) = true := by simp [h1]
        have hr := HY.out (by simp [h1])
        subst hr
        clear h1
        go_wp2_with fail
        go_ret
        exact ⟨rfl, HBB.out⟩
      have d1 : (f.kd == a) = false := by simp [h1]
      by_cases h2 : f.kd = b
      · have d2 : (f.kd == b) = true := by simp [h2]
        have hr := HY.out (by simp [h2])
        subst hr
        clear h1 h2
        go_wp2_with fail
        go_ret
        exact ⟨rfl, HBB.out⟩
      have d2 : (f.kd == b) = false := by simp [h2]
      by_cases h3 : f.kd = d
      · have d3 : (f.kd == d) = true := by simp [h3]
        have hr := HY.out (by simp [h3])
        subst hr
        clear h1 h2 h3
        go_wp2_with fail
        go_ret
        exact ⟨rfl, HBB.out⟩
      have d3 : (f.kd == d) = false := by simp [h3]
      have HN := hide (show ([a, b, d].any fun k => f.kd == k) = false by simp [h1, h2, h3])
      clear h1 h2 h3
      go_wp2_with fail
      go_roundw
      case rel =>
        refine ⟨k + 1, by omega, by simp, fun j y hj hy => ?_, HH.out, HBB.out⟩
        rcases Nat.lt_or_ge j k with h | h
        · exact HALL.out j y h hy
        · obtain rfl : j = k := by omega
          rw [HF.out] at hy
          obtain rfl := Option.some.inj hy
          exact HN.out
      case measure => simp [intOf]; omega
    · obtain rfl : k = n := by omega
      have hr : R = false := by
        rw [← HR.out]
        unfold hasK
        rw [List.any_eq_false]
        intro y hy
        obtain ⟨j, hj⟩ := List.getElem?_of_mem hy
        rw [HALL.out j y (by have := (List.getElem?_eq_some_iff.1 hj).1; have := HL.out; omega) hj]
        simp
      subst hr
      clear hB HALL hkn
      go_wp2_with fail
      go_ret
      exact ⟨rfl, HBB.out⟩

theorem rf_has (w : World) (nm : ByteArray) (sz : Int) (A : Option Addr) (c : Nat) (l : List Fl) (n : Nat) (hl : l.length = n) (hC : kF.C w A n l) (a : Int) :
    Calls Try.prog 70 #[.agg #[.string nm, .int .i64 sz, .slice A n c], .int .u8 a] w fun e w' => ∃ p : Int, e = .returned (.tuple #[.int .i64 p, .bool (hasK l [a])]) ∧ Below w.heap.size w w' := by
  have hn : (n : Int) ≤ 9223372036854775807 := by have := hC.2.1; omega
  have HL := hide hl
  have HC := hide hC
  have HG := hide (Has.new w 44 #[.string nm, .int .i64 sz, .slice A n c])
  have HB := hide (below_box w (.cells #[.string nm, .int .i64 sz, .slice A n c] 44))
  obtain ⟨R, hR⟩ : ∃ R, hasK l [a] = R := ⟨_, rfl⟩
  rw [hR]
  have HR := hide hR
  clear hl hC hR
  go_enter Try.func70, Try.ntmps70
  go_wp2_with fail
  obtain ⟨g, hg⟩ : ∃ g, w.heap.size = g := ⟨_, rfl⟩
  rw [hg] at HG
  rw [hg]
  have HGG := hide hg
  clear hg
  go_loopw [6] (fun x wr => ∃ (k : Nat), k ≤ n ∧ x = .int .i64 k ∧ (∀ j y, j < k → l[j]? = some y → (y.kd == a) = false) ∧ Has wr g 44 #[.string nm, .int .i64 sz, .slice A n c] ∧ Below w.heap.size w wr) (fun x _ => n - (intOf x).toNat)
  case atStart => exact ⟨0, Nat.zero_le _, rfl, fun j y hj => by omega, HG.out, HB.out⟩
  case round =>
    clear HG HB
    obtain ⟨k, hk, rfl, hall, hH, hB⟩ := hrel
    have HALL := hide hall
    have HH := hide hH
    have HBB := hide hB
    have g2 := hH.cell 2
    simp at g2
    clear hall hH
    by_cases hkn : k < n
    · have hk1 : (k : Int) < n := by omega
      have hk0 : (0 : Int) ≤ k := by omega
      obtain ⟨f, hf⟩ : ∃ x, l[k]? = some x := ⟨_, List.getElem?_eq_getElem (by rw [HL.out]; exact hkn)⟩
      obtain ⟨fb, fo, rfl, e0, e1, e2, e3, e4⟩ := fl_at HC.out hB hf
      have HF := hide hf
      clear hf hB e0 e2 e3 e4
      by_cases h1 : f.kd = a
      · have d1 : (f.kd == a) = true := by simp [h1]
        have hr : R = true := by
          rw [← HR.out]
          unfold hasK
          exact List.any_eq_true.2 ⟨f, List.mem_of_getElem? HF.out, by simp [h1]⟩
        subst hr
        clear h1
        go_wp2_with fail
        go_ret2
        exact ⟨_, rfl, HBB.out⟩
      have d1 : (f.kd == a) = false := by simp [h1]
      clear h1
      have HN := hide d1
      go_wp2_with fail
      go_roundw
      case rel =>
        refine ⟨k + 1, by omega, by simp, fun j y hj hy => ?_, HH.out, HBB.out⟩
        rcases Nat.lt_or_ge j k with h | h
        · exact HALL.out j y h hy
        · obtain rfl : j = k := by omega
          rw [HF.out] at hy
          obtain rfl := Option.some.inj hy
          exact HN.out
      case measure => simp [intOf]; omega
    · obtain rfl : k = n := by omega
      have hr : R = false := by
        rw [← HR.out]
        unfold hasK
        rw [List.any_eq_false]
        intro y hy
        obtain ⟨j, hj⟩ := List.getElem?_of_mem hy
        have := HALL.out j y (by have := (List.getElem?_eq_some_iff.1 hj).1; have := HL.out; omega) hj
        simp only [List.any_cons, List.any_nil, Bool.or_false, this]
        simp
      subst hr
      clear hB HALL hkn
      go_wp2_with fail
      go_ret2
      exact ⟨_, rfl, HBB.out⟩

theorem rf_of (w : World) (A : Option Addr) (c : Nat) (l : List Tp) (n : Nat) (hl : l.length = n) (hC : kT.C w A n l) (nm : ByteArray) :
    Calls Try.prog 68 #[.slice A n c, .string nm] w fun e w' => e = .returned (.tuple #[.int .i64 (max (ofIdx l nm) 0), .bool (decide (ofIdx l nm ≥ 0))]) ∧ Below w.heap.size w w' := by
  have hn : (n : Int) ≤ 9223372036854775807 := by have := hC.2.1; omega
  have HL := hide hl
  have HC := hide hC
  obtain ⟨R, hR⟩ : ∃ R, max (ofIdx l nm) 0 = R := ⟨_, rfl⟩
  obtain ⟨R2, hR2⟩ : ∃ R, decide (ofIdx l nm ≥ 0) = R := ⟨_, rfl⟩
  rw [hR, hR2]
  have HR := hide hR
  have HR2 := hide hR2
  clear hl hC hR hR2
  go_enter Try.func68, Try.ntmps68
  go_wp2_with fail
  go_loopw [6] (fun x wr => ∃ (k : Nat), k ≤ n ∧ x = .int .i64 k ∧ (∀ j y, j < k → l[j]? = some y → (y.nm.toList == nm.toList) = false) ∧ Below w.heap.size w wr) (fun x _ => n - (intOf x).toNat)
  case atStart => exact ⟨0, Nat.zero_le _, rfl, fun j y hj => by omega, Below.refl _ w⟩
  case round =>
    obtain ⟨k, hk, rfl, hall, hB⟩ := hrel
    have HALL := hide hall
    have HBB := hide hB
    clear hall
    by_cases hkn : k < n
    · have hk1 : (k : Int) < n := by omega
      have hk0 : (0 : Int) ≤ k := by omega
      obtain ⟨t, ht⟩ : ∃ x, l[k]? = some x := ⟨_, List.getElem?_eq_getElem (by rw [HL.out]; exact hkn)⟩
      obtain ⟨cb, off, A2, c2, rfl, e0, e1, e2, hl2, hF⟩ := tp_at HC.out hB ht
      have HF := hide ht
      clear ht hB e1 e2 hl2 hF
      cases h1 : (t.nm.toList == nm.toList) with
      | true =>
        have hi : ofIdx l nm = k := idxI_some HALL.out HF.out h1
        have hr : R = k := by rw [← HR.out, hi]; omega
        have hr2 : R2 = true := by rw [← HR2.out, hi]; exact decide_eq_true (by omega)
        subst hr hr2
        clear hi
        go_wp2_with fail
        go_ret2
        exact ⟨rfl, HBB.out⟩
      | false =>
        have HN := hide h1
        go_wp2_with fail
        go_roundw
        case rel =>
          refine ⟨k + 1, by omega, by simp, fun j y hj hy => ?_, HBB.out⟩
          rcases Nat.lt_or_ge j k with h | h
          · exact HALL.out j y h hy
          · obtain rfl : j = k := by omega
            rw [HF.out] at hy
            obtain rfl := Option.some.inj hy
            exact HN.out
        case measure => simp [intOf]; omega
    · obtain rfl : k = n := by omega
      have hi : ofIdx l nm = -1 := idxI_none (fun j y hy => HALL.out j y (by have := (List.getElem?_eq_some_iff.1 hy).1; have := HL.out; omega) hy)
      have hr : R = 0 := by rw [← HR.out, hi]; rfl
      have hr2 : R2 = false := by rw [← HR2.out, hi]; rfl
      subst hr hr2
      clear hB HALL hkn hi
      go_wp2_with fail
      go_ret2
      exact ⟨rfl, HBB.out⟩

theorem rf_object (w : World) (nm : ByteArray) (sz : Int) (A : Option Addr) (c : Nat) (l : List Fl) (n : Nat) (hl : l.length = n) (hC : kF.C w A n l) :
    Calls Try.prog 71 #[.agg #[.string nm, .int .i64 sz, .slice A n c]] w fun e w' => e = .returned (.bool (objK l)) ∧ Below w.heap.size w w' := by
  have HQ := hide (fun W (hW : Below w.heap.size w W) => rf_some W nm sz A c l n hl (Kd.C_below hC hW) 2 4 7)
  have HB := hide (below_box w (.cells #[.string nm, .int .i64 sz, .slice A n c] 44))
  unfold objK
  obtain ⟨r, hr⟩ : ∃ r, hasK l [2, 4, 7] = r := ⟨_, rfl⟩
  rw [hr] at HQ ⊢
  clear hr hl hC
  go_enter Try.func71, Try.ntmps71
  go_wp2_with fail
  first
    | refine (HQ.out _ HB.out).mono ?_
    | refine (HQ.out _ (Below.refl _ _)).mono ?_
  rintro e w1 ⟨rfl, hb1⟩
  go_wp2_with fail
  go_ret
  exact ⟨rfl, by first | exact bel_trans HB.out hb1 | exact hb1⟩

theorem rf_value (w : World) (nm : ByteArray) (sz : Int) (A : Option Addr) (c : Nat) (l : List Fl) (n : Nat) (hl : l.length = n) (hC : kF.C w A n l) :
    Calls Try.prog 72 #[.agg #[.string nm, .int .i64 sz, .slice A n c]] w fun e w' => e = .returned (.bool (valK l)) ∧ Below w.heap.size w w' := by
  have HQ := hide (fun W (hW : Below w.heap.size w W) => rf_some W nm sz A c l n hl (Kd.C_below hC hW) 3 5 6)
  have HB := hide (below_box w (.cells #[.string nm, .int .i64 sz, .slice A n c] 44))
  unfold valK
  obtain ⟨r, hr⟩ : ∃ r, hasK l [3, 5, 6] = r := ⟨_, rfl⟩
  rw [hr] at HQ ⊢
  clear hr hl hC
  go_enter Try.func72, Try.ntmps72
  go_wp2_with fail
  first
    | refine (HQ.out _ HB.out).mono ?_
    | refine (HQ.out _ (Below.refl _ _)).mono ?_
  rintro e w1 ⟨rfl, hb1⟩
  go_wp2_with fail
  go_ret
  exact ⟨rfl, by first | exact bel_trans HB.out hb1 | exact hb1⟩
end Go.Proofs.Ytkflofjcjolehaa

/-! Types: the document's field. -/
namespace Go.Proofs.Ytkflofjcjolehaa
open Go.RowKit Go.Proofs.YtkflofjcjolehaaW.PrintWords
set_option maxHeartbeats 4000000
set_option maxRecDepth 100000
set_option linter.unusedSimpArgs false
set_option linter.unusedVariables false

theorem rf_size_still (w : World) (k : Int) : Calls Try.prog 84 #[.int .u8 k] w fun e w' => e = .returned (.int .i64 (szK k)) ∧ w' = w :=
  (rf_size w k).mono fun e w' ⟨he, hw⟩ => ⟨he, hw.symm⟩
theorem take_any_none {p : Fl → Bool} {fs : List Fl} {k : Nat} (h : ∀ j y, j < k → fs[j]? = some y → p y = false) : (fs.take k).any p = false := by
  rw [List.any_eq_false]
  intro y hy
  obtain ⟨j, hj⟩ := List.getElem?_of_mem hy
  rw [List.getElem?_take] at hj
  split at hj
  · rw [h j y (by assumption) hj]; simp
  · cases hj
theorem take_any_some {p : Fl → Bool} {fs : List Fl} {k j : Nat} {y : Fl} (hj : j < k) (h : fs[j]? = some y) (hp : p y = true) : (fs.take k).any p = true :=
  List.any_eq_true.2 ⟨y, List.mem_of_getElem? (show (fs.take k)[j]? = some y by rw [List.getElem?_take, if_pos hj]; exact h), hp⟩

set_option maxHeartbeats 40000000 in
theorem rf_field (law_may : ∀ (w : World) (s : ByteArray), s.size ≤ 1000000 → Calls Try.prog 23 #[.string s] w fun e w' => e = .returned (.bool (nameMay s)) ∧ Below w.heap.size w w')
    (w : World) (nm : ByteArray) (sz : Int) (A : Option Addr) (c : Nat) (fs : List Fl) (n : Nat) (hl : fs.length = n) (hC : kF.C w A n fs) (k : Nat) (hk : k < n) (hsm : ∀ f ∈ fs, f.nm.size ≤ 1000000) :
    Calls Try.prog 69 #[.agg #[.string nm, .int .i64 sz, .slice A n c], .int .i64 k] w fun e w' => e = .returned (.int .i64 (fieldF sz fs k)) ∧ Below w.heap.size w w' := by
  have hn : (n : Int) ≤ 9223372036854775807 := by have := hC.2.1; omega
  obtain ⟨f, hf⟩ : ∃ x, fs[k]? = some x := ⟨_, List.getElem?_eq_getElem (by omega)⟩
  obtain ⟨cb, off, rfl, e0, e1, e2, e3, e4⟩ := fl_at hC (below_box w (.cells #[.string nm, .int .i64 sz, .slice A n c] 44)) hf
  have hk1 : (k : Int) < n := by omega
  have hk0 : (0 : Int) ≤ k := by omega
  have hg : fs.getD k zF = f := by rw [List.getD_eq_getElem?_getD, hf]; rfl
  have HM := hide (fun W => law_may W f.nm (hsm f (List.mem_of_getElem? hf)))
  have HC := hide hC
  have HL := hide hl
  have HKN := hide hk
  obtain ⟨R, hR⟩ : ∃ R, fieldF sz fs k = R := ⟨_, rfl⟩
  rw [hR]
  unfold fieldF at hR
  simp only [hg] at hR
  have HR := hide hR
  obtain ⟨m, hm⟩ : ∃ m, nameMay f.nm = m := ⟨_, rfl⟩
  rw [hm] at HM HR
  have HFF := hide hf
  obtain ⟨fnm, kd, pl, of, nd⟩ := f
  simp only [] at e0 e1 e2 e3 e4 HM HR
  have HS := hide (fun W => rf_size_still W kd)
  obtain ⟨z, hz⟩ : ∃ z, szK kd = z := ⟨_, rfl⟩
  rw [hz] at HS HR
  have HB0 := hide (bel_trans (below_box w (.cells #[.string nm, .int .i64 sz, .slice (some ⟨cb, off, none⟩) n c] 44)) (below_box _ (.cells #[.string fnm, .int .u8 kd, .int .i64 pl, .int .i64 of, .int .i64 nd] 46)))
  have HG0 := hide ((Has.new w 44 #[.string nm, .int .i64 sz, .slice (some ⟨cb, off, none⟩) n c]).alloc (.cells #[.string fnm, .int .u8 kd, .int .i64 pl, .int .i64 of, .int .i64 nd] 46))
  have HF0 := hide (by have := Has.new (w.alloc (.cells #[.string nm, .int .i64 sz, .slice (some ⟨cb, off, none⟩) n c] 44)) 46 #[.string fnm, .int .u8 kd, .int .i64 pl, .int .i64 of, .int .i64 nd]; rw [World.size_alloc] at this; exact this)
  have b2 := new_cell w #[.string nm, .int .i64 sz, .slice (some ⟨cb, off, none⟩) n c] 44 2 _ rfl
  clear hC hl hf hg hR hm hz hk hsm law_may
  go_enter Try.func69, Try.ntmps69
  go_wp2_with fail
  refine (HM.out _).mono ?_
  rintro e w1 ⟨rfl, hb1⟩
  have HG1 := hide (HG0.out.below hb1 HG0.out.lt)
  have HF1 := hide (HF0.out.below hb1 HF0.out.lt)
  have HB1 := hide (bel_trans HB0.out hb1)
  obtain ⟨h, hhh⟩ : ∃ h, w.heap.size + 1 = h := ⟨_, rfl⟩
  obtain ⟨g, hgg⟩ : ∃ g, w.heap.size = g := ⟨_, rfl⟩
  rw [hhh] at HF1 ⊢
  rw [hgg] at HG1 ⊢
  have HHH := hide hhh
  have HGG := hide hgg
  clear hb1 hhh hgg e0 e1 e2 e3 e4 b2 HB0 HG0 HF0 HM
  cases m with
  | false =>
    have e := HR.out
    rw [if_pos rfl] at e
    subst e
    go_wp2_with fail
    go_ret
    exact ⟨rfl, HB1.out⟩
  | true =>
  rw [if_neg (by simp)] at HR
  go_wp2_with fail
  go_loopw [6] (fun x wr => ∃ (j : Nat), j ≤ k ∧ x = .int .i64 j ∧ (∀ i y, i < j → fs[i]? = some y → (y.nm.toList == fnm.toList) = false) ∧ Has wr g 44 #[.string nm, .int .i64 sz, .slice (some ⟨cb, off, none⟩) n c] ∧ Has wr h 46 #[.string fnm, .int .u8 kd, .int .i64 pl, .int .i64 of, .int .i64 nd] ∧ Below w.heap.size w wr) (fun x _ => k - (intOf x).toNat)
  case atStart => exact ⟨0, Nat.zero_le _, rfl, fun j y hj => by omega, HG1.out, HF1.out, HB1.out⟩
  case round =>
    clear HG1 HF1 HB1
    obtain ⟨j, hj, rfl, hall, hG, hF, hB⟩ := hrel
    have HALL := hide hall
    have HG := hide hG
    have HF := hide hF
    have HBB := hide hB
    have g1 := hG.cell 1
    have g2 := hG.cell 2
    have f0 := hF.cell 0
    have f1 := hF.cell 1
    have f2 := hF.cell 2
    simp at g1 g2 f0 f1 f2
    clear hall hG hF
    by_cases hjk : j < k
    · have hj1 : (j : Int) < k := by omega
      have hj2 : (j : Int) < n := by have := HKN.out; omega
      have hj0 : (0 : Int) ≤ j := by omega
      obtain ⟨y, hy⟩ : ∃ x, fs[j]? = some x := ⟨_, List.getElem?_eq_getElem (by have := HL.out; have := HKN.out; omega)⟩
      obtain ⟨_, _, he, e0, _, _, _, _⟩ := fl_at HC.out hB hy
      cases he
      have HY := hide hy
      clear hy hB
      cases h1 : (y.nm.toList == fnm.toList) with
      | true =>
        have e := HR.out
        rw [take_any_some hjk HY.out h1, if_pos rfl] at e
        subst e
        clear hjk
        go_wp2_with fail
        go_quiet (fail)
        go_wp2_with fail
        go_ret
        exact ⟨rfl, Below.drewN_ HBB.out _⟩
      | false =>
        have HN := hide h1
        go_wp2_with fail
        go_quiet (fail)
        go_wp2_with fail
        go_roundw
        case rel =>
          refine ⟨j + 1, by omega, by simp, fun i x hi hx => ?_, HG.out.drewN _, HF.out.drewN _, Below.drewN_ HBB.out _⟩
          rcases Nat.lt_or_ge i j with h | h
          · exact HALL.out i x h hx
          · obtain rfl : i = j := by omega
            rw [HY.out] at hx
            obtain rfl := Option.some.inj hx
            exact HN.out
        case measure => simp [intOf]; omega
    · obtain rfl : j = k := by omega
      have HR1 := hide HR.out
      rw [take_any_none HALL.out, if_neg (by simp)] at HR1
      clear HALL HR hjk hB
      go_wp2_with fail
      refine (HS.out _).mono ?_
      rintro e w2 ⟨rfl, rfl⟩
      by_cases hz0 : z = 0
      · have dz : (z == 0) = true := by simp [hz0]
        have e := HR1.out
        rw [if_pos hz0] at e
        subst e
        clear hz0
        go_wp2_with fail
        go_ret
        exact ⟨rfl, HBB.out⟩
      have dz : (z == 0) = false := by simp [hz0]
      rw [if_neg hz0] at HR1
      clear hz0
      by_cases hpl : pl < 0 ∨ Int.tmod pl 8 ≠ 0 ∨ pl > sz ∨ z > wrap64 (sz - pl)
      · have e := HR1.out
        rw [if_pos hpl] at e
        subst e
        by_cases p1 : pl < 0
        · have d1 : decide (pl < 0) = true := decide_eq_true p1
          clear hpl p1
          go_wp2_with fail
          go_ret
          exact ⟨rfl, HBB.out⟩
        have d1 : decide (pl < 0) = false := decide_eq_false p1
        by_cases p2 : Int.tmod pl 8 = 0
        · have d2 : (Int.tmod pl 8 != 0) = false := by simp [p2]
          by_cases p3 : pl > sz
          · have d3 : decide (sz < pl) = true := decide_eq_true p3
            clear hpl p1 p2 p3
            go_wp2_with fail
            go_ret
            exact ⟨rfl, HBB.out⟩
          have d3 : decide (sz < pl) = false := decide_eq_false p3
          have d4 : decide (wrap64 (sz - pl) < z) = true := decide_eq_true (by omega)
          clear hpl p1 p2 p3
          go_wp2_with fail
          go_ret
          exact ⟨rfl, HBB.out⟩
        · have d2 : (Int.tmod pl 8 != 0) = true := by simp [p2]
          clear hpl p1 p2
          go_wp2_with fail
          go_ret
          exact ⟨rfl, HBB.out⟩
      have d1 : decide (pl < 0) = false := decide_eq_false (by omega)
      have d2 : (Int.tmod pl 8 != 0) = false := by
        have : Int.tmod pl 8 = 0 := by omega
        simp [this]
      have d3 : decide (sz < pl) = false := decide_eq_false (by omega)
      have d4 : decide (wrap64 (sz - pl) < z) = false := decide_eq_false (by omega)
      rw [if_neg hpl] at HR1
      clear hpl
      go_wp2_with fail
      clear g1 g2 f0 f1 f2
      go_loopw [8] (fun x wr => ∃ (i : Nat), i ≤ j ∧ x = .int .i64 i ∧ (∀ i' y, i' < i → fs[i']? = some y → flMeets y pl z = false) ∧ Has wr g 44 #[.string nm, .int .i64 sz, .slice (some ⟨cb, off, none⟩) n c] ∧ Has wr h 46 #[.string fnm, .int .u8 kd, .int .i64 pl, .int .i64 of, .int .i64 nd] ∧ Below w.heap.size w wr) (fun x _ => j - (intOf x).toNat)
      case atStart => exact ⟨0, Nat.zero_le _, rfl, fun j y hj => by omega, HG.out, HF.out, HBB.out⟩
      case round =>
        clear HG HF HBB
        obtain ⟨i, hi, rfl, hall, hG, hF, hB⟩ := hrel
        have HALL := hide hall
        have HG := hide hG
        have HF := hide hF
        have HBB := hide hB
        have g2 := hG.cell 2
        have f1 := hF.cell 1
        have f2 := hF.cell 2
        simp at g2 f1 f2
        clear hall hG hF
        by_cases hij : i < j
        · have hj1 : (i : Int) < j := by omega
          have hj2 : (i : Int) < n := by have := HKN.out; omega
          have hj0 : (0 : Int) ≤ i := by omega
          obtain ⟨y, hy⟩ : ∃ x, fs[i]? = some x := ⟨_, List.getElem?_eq_getElem (by have := HL.out; have := HKN.out; omega)⟩
          obtain ⟨_, _, he, e0, e1, e2, e3, e4⟩ := fl_at HC.out hB hy
          cases he
          have HY := hide hy
          clear hy hB
          obtain ⟨yn, yk, ya, yo, yd⟩ := y
          simp only [] at e0 e1 e2 e3 e4
          have HSB : Hid (∀ W, Calls Try.prog 84 #[.int .u8 yk] W fun e w' => e = .returned (.int .i64 (szK yk)) ∧ Below W.heap.size W w') := hide (fun W => (rf_size_still W yk).mono (by rintro e w' ⟨rfl, rfl⟩; exact ⟨rfl, Below.refl _ _⟩))
          obtain ⟨zy, hzy⟩ : ∃ z, szK yk = z := ⟨_, rfl⟩
          have hfm : flMeets ⟨yn, yk, ya, yo, yd⟩ pl z = (decide (ya < IntKind.i64.wrap (pl + z)) && decide (pl < IntKind.i64.wrap (ya + zy))) := by unfold flMeets; rw [← hzy]
          rw [hzy] at HSB
          clear hzy
          have HA1 := hide (fun W : World => show (binOp .add 3 (.int .i64 ya) (.int .i64 zy)).run Try.prog W = .ok (.int .i64 (IntKind.i64.wrap (ya + zy))) W by simp [go_sem])
          have HA2 := hide (fun W : World => show (binOp .add 3 (.int .i64 pl) (.int .i64 z)).run Try.prog W = .ok (.int .i64 (IntKind.i64.wrap (pl + z))) W by simp [go_sem])
          obtain ⟨u1, hu1⟩ : ∃ u, IntKind.i64.wrap (ya + zy) = u := ⟨_, rfl⟩
          obtain ⟨u2, hu2⟩ : ∃ u, IntKind.i64.wrap (pl + z) = u := ⟨_, rfl⟩
          rw [hu1] at HA1 hfm
          rw [hu2] at HA2 hfm
          have HLF := hide hfm
          clear hu1 hu2 hfm
          have F2 := hide (cell_on (HF.out.cell 2) (.cells #[.string yn, .int .u8 yk, .int .i64 ya, .int .i64 yo, .int .i64 yd] 46))
          have hnb := Has.new wr 46 #[.string yn, .int .u8 yk, .int .i64 ya, .int .i64 yo, .int .i64 yd]
          obtain ⟨b, hbb⟩ : ∃ b, wr.heap.size = b := ⟨_, rfl⟩
          rw [hbb] at hnb
          have C1 := hide (hnb.cell 1)
          have C2 := hide (hnb.cell 2)
          have HBB2 := hide hbb
          clear hbb hnb
          cases q1 : decide (pl < u1) with
          | false =>
            have HL1 := hide (fun W : World => show (binOp .lss 3 (.int .i64 pl) (.int .i64 u1)).run Try.prog W = .ok (.bool false) W by simp only [decide_eq_false_iff_not] at q1; simp [go_sem, q1])
            have HL2 := HL1
            have HN := hide HLF.out
            rw [q1, Bool.and_false] at HN
            clear HLF q1
            go_wp2_with fail
            rw [HBB2.out]
            refine wp_region_fixed [74, 75, 76, 77, 78, 79, 80, 81, 82, 83, 84, 85, 86, 87, 88, 89, 90]
              [.pointer (some ⟨h, 2, none⟩), .int .i64 pl, .pointer (some ⟨b, 2, none⟩), .int .i64 ya, .pointer (some ⟨b, 1, none⟩), .int .u8 yk, .int .i64 zy, .int .i64 u1, .bool false, .bool false, undef, undef, undef, undef, undef, undef, undef] (by kernel_rfl) (by simp) rfl (by kernel_rfl) (by kernel_rfl) (by kernel_rfl) (by simp) (by decide) ?_ ?_
            · refine ⟨?_, ?_, ?_, ?_, ?_, ?_, ?_, ?_, ?_, ?_, ?_, ?_, ?_, ?_, ?_, ?_, ?_, trivial⟩
              · exact .inl ⟨.inl rfl, fun a' W hB hold he K hK => fx_field 46 (.tmp 5) 2 _ _ rfl (hold 5 (by decide)) (by kernel_rfl) (hK _ (Below.refl _ _))⟩
              · exact .inl ⟨.inl rfl, fun a' W hB hold he K hK => wp_step_load 3 (.tmp 74) _ rfl _ (he ⟨0, .data⟩ (by simp) rfl) (load_int W _ _ _ (cell_bel F2.out hB)) (hK _ (Below.refl _ _))⟩
              · exact .inl ⟨.inl rfl, fun a' W hB hold he K hK => fx_field 46 (.tmp 9) 2 _ _ rfl (hold 9 (by decide)) (by kernel_rfl) (hK _ (Below.refl _ _))⟩
              · exact .inl ⟨.inl rfl, fun a' W hB hold he K hK => wp_step_load 3 (.tmp 76) _ rfl _ (he ⟨2, .data⟩ (by simp) rfl) (load_int W _ _ _ (cell_bel C2.out hB)) (hK _ (Below.refl _ _))⟩
              · exact .inl ⟨.inl rfl, fun a' W hB hold he K hK => fx_field 46 (.tmp 9) 1 _ _ rfl (hold 9 (by decide)) (by kernel_rfl) (hK _ (Below.refl _ _))⟩
              · exact .inl ⟨.inl rfl, fun a' W hB hold he K hK => wp_step_load 5 (.tmp 78) _ rfl _ (he ⟨4, .data⟩ (by simp) rfl) (load_u8 W _ _ _ (cell_bel C1.out hB)) (hK _ (Below.refl _ _))⟩
              · exact .inl ⟨.inl rfl, fun a' W hB hold he K hK => (by have h0 : a'.eval (.tmp 79) = _ := (he ⟨5, .data⟩ (by simp) rfl); exact wp_step_call 84 #[_] (by simp only [execOp, h0]; simp [go_sem] <;> simp_all [Act.eval]) ((HSB.out W).mono (by rintro e1 w' ⟨rfl, hb⟩; exact ⟨_, rfl, hK _ hb⟩)))⟩
              · exact .inl ⟨.inl rfl, fun a' W hB hold he K hK => fx_bin .add 3 3 (.tmp 77) (.tmp 80) _ _ _ rfl (he ⟨3, .data⟩ (by simp) rfl) (he ⟨6, .data⟩ (by simp) rfl) rfl (HA1.out _) (hK _ (Below.refl _ _))⟩
              · exact .inl ⟨.inl rfl, fun a' W hB hold he K hK => fx_bin .lss 3 3 (.tmp 75) (.tmp 81) _ _ _ rfl (he ⟨1, .data⟩ (by simp) rfl) (he ⟨7, .data⟩ (by simp) rfl) rfl (HL1.out _) (hK _ (Below.refl _ _))⟩
              · exact .inl ⟨.inl rfl, fun a' W hB hold he K hK => fx_move (.tmp 82) _ (.inl rfl) (he ⟨8, .data⟩ (by simp) rfl) (hK _ (Below.refl _ _))⟩
              · exact .inr ⟨rfl, rfl, 9, true, _, rfl, ⟨⟨9, .guard⟩, by simp, rfl, rfl⟩, rfl, rfl, by decide, by intro h; cases h⟩
              · exact .inr ⟨rfl, rfl, 9, true, _, rfl, ⟨⟨9, .guard⟩, by simp, rfl, rfl⟩, rfl, rfl, by decide, by intro h; cases h⟩
              · exact .inr ⟨rfl, rfl, 9, true, _, rfl, ⟨⟨9, .guard⟩, by simp, rfl, rfl⟩, rfl, rfl, by decide, by intro h; cases h⟩
              · exact .inr ⟨rfl, rfl, 9, true, _, rfl, ⟨⟨9, .guard⟩, by simp, rfl, rfl⟩, rfl, rfl, by decide, by intro h; cases h⟩
              · exact .inr ⟨rfl, rfl, 9, true, _, rfl, ⟨⟨9, .guard⟩, by simp, rfl, rfl⟩, rfl, rfl, by decide, by intro h; cases h⟩
              · exact .inr ⟨rfl, rfl, 9, true, _, rfl, ⟨⟨9, .guard⟩, by simp, rfl, rfl⟩, rfl, rfl, by decide, by intro h; cases h⟩
              · exact .inr ⟨rfl, rfl, 9, true, _, rfl, ⟨⟨9, .guard⟩, by simp, rfl, rfl⟩, rfl, rfl, by decide, by intro h; cases h⟩
            intro W hB5
            simp only [putAll, List.length_cons, List.length_nil, Nat.reduceAdd, List.drop_succ_cons, List.drop_zero]
            have HDB : Hid (Below w.heap.size w W) := hide (bel_trans (bel_trans HBB.out (below_box _ _)) hB5)
            have HDG : Hid (Has W g 44 #[.string nm, .int .i64 sz, .slice (some ⟨cb, off, none⟩) n c]) := hide ((HG.out.alloc _).below hB5 (HG.out.alloc _).lt)
            have HDF : Hid (Has W h 46 #[.string fnm, .int .u8 kd, .int .i64 pl, .int .i64 of, .int .i64 nd]) := hide ((HF.out.alloc _).below hB5 (HF.out.alloc _).lt)
            clear hB5 F2 C1 C2 HA1 HA2 HL1 HL2 HSB HBB2
            go_wp2_with fail
            go_roundw
            case rel =>
              refine ⟨i + 1, by omega, by simp, fun i' x hi hx => ?_, HDG.out, HDF.out, HDB.out⟩
              rcases Nat.lt_or_ge i' i with h | h
              · exact HALL.out i' x h hx
              · obtain rfl : i' = i := by omega
                rw [HY.out] at hx
                obtain rfl := Option.some.inj hx
                exact HN.out
            case measure => simp [intOf]; omega
          | true =>
            have HL1 := hide (fun W : World => show (binOp .lss 3 (.int .i64 pl) (.int .i64 u1)).run Try.prog W = .ok (.bool true) W by simp only [decide_eq_true_eq] at q1; simp [go_sem, q1])
            cases q2 : decide (ya < u2) with
            | false =>
              have HL2 := hide (fun W : World => show (binOp .lss 3 (.int .i64 ya) (.int .i64 u2)).run Try.prog W = .ok (.bool false) W by simp only [decide_eq_false_iff_not] at q2; simp [go_sem, q2])
              have HN := hide HLF.out
              rw [q2, Bool.false_and] at HN
              clear HLF q1 q2
              go_wp2_with fail
              rw [HBB2.out]
              refine wp_region_fixed [74, 75, 76, 77, 78, 79, 80, 81, 82, 83, 84, 85, 86, 87, 88, 89, 90]
                [.pointer (some ⟨h, 2, none⟩), .int .i64 pl, .pointer (some ⟨b, 2, none⟩), .int .i64 ya, .pointer (some ⟨b, 1, none⟩), .int .u8 yk, .int .i64 zy, .int .i64 u1, .bool true, .bool true, .pointer (some ⟨b, 2, none⟩), .int .i64 ya, .pointer (some ⟨h, 2, none⟩), .int .i64 pl, .int .i64 z, .int .i64 u2, .bool false] (by kernel_rfl) (by simp) rfl (by kernel_rfl) (by kernel_rfl) (by kernel_rfl) (by simp) (by decide) ?_ ?_
              · refine ⟨?_, ?_, ?_, ?_, ?_, ?_, ?_, ?_, ?_, ?_, ?_, ?_, ?_, ?_, ?_, ?_, ?_, trivial⟩
                · exact .inl ⟨.inl rfl, fun a' W hB hold he K hK => fx_field 46 (.tmp 5) 2 _ _ rfl (hold 5 (by decide)) (by kernel_rfl) (hK _ (Below.refl _ _))⟩
                · exact .inl ⟨.inl rfl, fun a' W hB hold he K hK => wp_step_load 3 (.tmp 74) _ rfl _ (he ⟨0, .data⟩ (by simp) rfl) (load_int W _ _ _ (cell_bel F2.out hB)) (hK _ (Below.refl _ _))⟩
                · exact .inl ⟨.inl rfl, fun a' W hB hold he K hK => fx_field 46 (.tmp 9) 2 _ _ rfl (hold 9 (by decide)) (by kernel_rfl) (hK _ (Below.refl _ _))⟩
                · exact .inl ⟨.inl rfl, fun a' W hB hold he K hK => wp_step_load 3 (.tmp 76) _ rfl _ (he ⟨2, .data⟩ (by simp) rfl) (load_int W _ _ _ (cell_bel C2.out hB)) (hK _ (Below.refl _ _))⟩
                · exact .inl ⟨.inl rfl, fun a' W hB hold he K hK => fx_field 46 (.tmp 9) 1 _ _ rfl (hold 9 (by decide)) (by kernel_rfl) (hK _ (Below.refl _ _))⟩
                · exact .inl ⟨.inl rfl, fun a' W hB hold he K hK => wp_step_load 5 (.tmp 78) _ rfl _ (he ⟨4, .data⟩ (by simp) rfl) (load_u8 W _ _ _ (cell_bel C1.out hB)) (hK _ (Below.refl _ _))⟩
                · exact .inl ⟨.inl rfl, fun a' W hB hold he K hK => (by have h0 : a'.eval (.tmp 79) = _ := (he ⟨5, .data⟩ (by simp) rfl); exact wp_step_call 84 #[_] (by simp only [execOp, h0]; simp [go_sem] <;> simp_all [Act.eval]) ((HSB.out W).mono (by rintro e1 w' ⟨rfl, hb⟩; exact ⟨_, rfl, hK _ hb⟩)))⟩
                · exact .inl ⟨.inl rfl, fun a' W hB hold he K hK => fx_bin .add 3 3 (.tmp 77) (.tmp 80) _ _ _ rfl (he ⟨3, .data⟩ (by simp) rfl) (he ⟨6, .data⟩ (by simp) rfl) rfl (HA1.out _) (hK _ (Below.refl _ _))⟩
                · exact .inl ⟨.inl rfl, fun a' W hB hold he K hK => fx_bin .lss 3 3 (.tmp 75) (.tmp 81) _ _ _ rfl (he ⟨1, .data⟩ (by simp) rfl) (he ⟨7, .data⟩ (by simp) rfl) rfl (HL1.out _) (hK _ (Below.refl _ _))⟩
                · exact .inl ⟨.inl rfl, fun a' W hB hold he K hK => fx_move (.tmp 82) _ (.inl rfl) (he ⟨8, .data⟩ (by simp) rfl) (hK _ (Below.refl _ _))⟩
                · exact .inl ⟨.inr ⟨9, true, _, rfl, ⟨⟨9, .guard⟩, by simp, rfl, rfl⟩, rfl, rfl, by decide, rfl⟩, fun a' W hB hold he K hK => fx_field 46 (.tmp 9) 2 _ _ rfl (hold 9 (by decide)) (by kernel_rfl) (hK _ (Below.refl _ _))⟩
                · exact .inl ⟨.inr ⟨9, true, _, rfl, ⟨⟨9, .guard⟩, by simp, rfl, rfl⟩, rfl, rfl, by decide, rfl⟩, fun a' W hB hold he K hK => wp_step_load 3 (.tmp 84) _ rfl _ (he ⟨10, .data⟩ (by simp) rfl) (load_int W _ _ _ (cell_bel C2.out hB)) (hK _ (Below.refl _ _))⟩
                · exact .inl ⟨.inr ⟨9, true, _, rfl, ⟨⟨9, .guard⟩, by simp, rfl, rfl⟩, rfl, rfl, by decide, rfl⟩, fun a' W hB hold he K hK => fx_field 46 (.tmp 5) 2 _ _ rfl (hold 5 (by decide)) (by kernel_rfl) (hK _ (Below.refl _ _))⟩
                · exact .inl ⟨.inr ⟨9, true, _, rfl, ⟨⟨9, .guard⟩, by simp, rfl, rfl⟩, rfl, rfl, by decide, rfl⟩, fun a' W hB hold he K hK => wp_step_load 3 (.tmp 86) _ rfl _ (he ⟨12, .data⟩ (by simp) rfl) (load_int W _ _ _ (cell_bel F2.out hB)) (hK _ (Below.refl _ _))⟩
                · exact .inl ⟨.inr ⟨9, true, _, rfl, ⟨⟨9, .guard⟩, by simp, rfl, rfl⟩, rfl, rfl, by decide, rfl⟩, fun a' W hB hold he K hK => fx_move (.tmp 7) _ (.inl rfl) (hold 7 (by decide)) (hK _ (Below.refl _ _))⟩
                · exact .inl ⟨.inr ⟨9, true, _, rfl, ⟨⟨9, .guard⟩, by simp, rfl, rfl⟩, rfl, rfl, by decide, rfl⟩, fun a' W hB hold he K hK => fx_bin .add 3 3 (.tmp 87) (.tmp 88) _ _ _ rfl (he ⟨13, .data⟩ (by simp) rfl) (he ⟨14, .data⟩ (by simp) rfl) rfl (HA2.out _) (hK _ (Below.refl _ _))⟩
                · exact .inl ⟨.inr ⟨9, true, _, rfl, ⟨⟨9, .guard⟩, by simp, rfl, rfl⟩, rfl, rfl, by decide, rfl⟩, fun a' W hB hold he K hK => fx_bin .lss 3 3 (.tmp 85) (.tmp 89) _ _ _ rfl (he ⟨11, .data⟩ (by simp) rfl) (he ⟨15, .data⟩ (by simp) rfl) rfl (HL2.out _) (hK _ (Below.refl _ _))⟩
              intro W hB5
              simp only [putAll, List.length_cons, List.length_nil, Nat.reduceAdd, List.drop_succ_cons, List.drop_zero]
              have HDB : Hid (Below w.heap.size w W) := hide (bel_trans (bel_trans HBB.out (below_box _ _)) hB5)
              have HDG : Hid (Has W g 44 #[.string nm, .int .i64 sz, .slice (some ⟨cb, off, none⟩) n c]) := hide ((HG.out.alloc _).below hB5 (HG.out.alloc _).lt)
              have HDF : Hid (Has W h 46 #[.string fnm, .int .u8 kd, .int .i64 pl, .int .i64 of, .int .i64 nd]) := hide ((HF.out.alloc _).below hB5 (HF.out.alloc _).lt)
              clear hB5 F2 C1 C2 HA1 HA2 HL1 HL2 HSB HBB2
              go_wp2_with fail
              go_roundw
              case rel =>
                refine ⟨i + 1, by omega, by simp, fun i' x hi hx => ?_, HDG.out, HDF.out, HDB.out⟩
                rcases Nat.lt_or_ge i' i with h | h
                · exact HALL.out i' x h hx
                · obtain rfl : i' = i := by omega
                  rw [HY.out] at hx
                  obtain rfl := Option.some.inj hx
                  exact HN.out
              case measure => simp [intOf]; omega
            | true =>
              have HL2 := hide (fun W : World => show (binOp .lss 3 (.int .i64 ya) (.int .i64 u2)).run Try.prog W = .ok (.bool true) W by simp only [decide_eq_true_eq] at q2; simp [go_sem, q2])
              have HN := hide HLF.out
              rw [q1, q2, Bool.true_and] at HN
              clear HLF q1 q2
              have e := HR1.out
              rw [take_any_some (by omega) HY.out HN.out, if_pos rfl] at e
              subst e
              go_wp2_with fail
              rw [HBB2.out]
              refine wp_region_fixed [74, 75, 76, 77, 78, 79, 80, 81, 82, 83, 84, 85, 86, 87, 88, 89, 90]
                [.pointer (some ⟨h, 2, none⟩), .int .i64 pl, .pointer (some ⟨b, 2, none⟩), .int .i64 ya, .pointer (some ⟨b, 1, none⟩), .int .u8 yk, .int .i64 zy, .int .i64 u1, .bool true, .bool true, .pointer (some ⟨b, 2, none⟩), .int .i64 ya, .pointer (some ⟨h, 2, none⟩), .int .i64 pl, .int .i64 z, .int .i64 u2, .bool true] (by kernel_rfl) (by simp) rfl (by kernel_rfl) (by kernel_rfl) (by kernel_rfl) (by simp) (by decide) ?_ ?_
              · refine ⟨?_, ?_, ?_, ?_, ?_, ?_, ?_, ?_, ?_, ?_, ?_, ?_, ?_, ?_, ?_, ?_, ?_, trivial⟩
                · exact .inl ⟨.inl rfl, fun a' W hB hold he K hK => fx_field 46 (.tmp 5) 2 _ _ rfl (hold 5 (by decide)) (by kernel_rfl) (hK _ (Below.refl _ _))⟩
                · exact .inl ⟨.inl rfl, fun a' W hB hold he K hK => wp_step_load 3 (.tmp 74) _ rfl _ (he ⟨0, .data⟩ (by simp) rfl) (load_int W _ _ _ (cell_bel F2.out hB)) (hK _ (Below.refl _ _))⟩
                · exact .inl ⟨.inl rfl, fun a' W hB hold he K hK => fx_field 46 (.tmp 9) 2 _ _ rfl (hold 9 (by decide)) (by kernel_rfl) (hK _ (Below.refl _ _))⟩
                · exact .inl ⟨.inl rfl, fun a' W hB hold he K hK => wp_step_load 3 (.tmp 76) _ rfl _ (he ⟨2, .data⟩ (by simp) rfl) (load_int W _ _ _ (cell_bel C2.out hB)) (hK _ (Below.refl _ _))⟩
                · exact .inl ⟨.inl rfl, fun a' W hB hold he K hK => fx_field 46 (.tmp 9) 1 _ _ rfl (hold 9 (by decide)) (by kernel_rfl) (hK _ (Below.refl _ _))⟩
                · exact .inl ⟨.inl rfl, fun a' W hB hold he K hK => wp_step_load 5 (.tmp 78) _ rfl _ (he ⟨4, .data⟩ (by simp) rfl) (load_u8 W _ _ _ (cell_bel C1.out hB)) (hK _ (Below.refl _ _))⟩
                · exact .inl ⟨.inl rfl, fun a' W hB hold he K hK => (by have h0 : a'.eval (.tmp 79) = _ := (he ⟨5, .data⟩ (by simp) rfl); exact wp_step_call 84 #[_] (by simp only [execOp, h0]; simp [go_sem] <;> simp_all [Act.eval]) ((HSB.out W).mono (by rintro e1 w' ⟨rfl, hb⟩; exact ⟨_, rfl, hK _ hb⟩)))⟩
                · exact .inl ⟨.inl rfl, fun a' W hB hold he K hK => fx_bin .add 3 3 (.tmp 77) (.tmp 80) _ _ _ rfl (he ⟨3, .data⟩ (by simp) rfl) (he ⟨6, .data⟩ (by simp) rfl) rfl (HA1.out _) (hK _ (Below.refl _ _))⟩
                · exact .inl ⟨.inl rfl, fun a' W hB hold he K hK => fx_bin .lss 3 3 (.tmp 75) (.tmp 81) _ _ _ rfl (he ⟨1, .data⟩ (by simp) rfl) (he ⟨7, .data⟩ (by simp) rfl) rfl (HL1.out _) (hK _ (Below.refl _ _))⟩
                · exact .inl ⟨.inl rfl, fun a' W hB hold he K hK => fx_move (.tmp 82) _ (.inl rfl) (he ⟨8, .data⟩ (by simp) rfl) (hK _ (Below.refl _ _))⟩
                · exact .inl ⟨.inr ⟨9, true, _, rfl, ⟨⟨9, .guard⟩, by simp, rfl, rfl⟩, rfl, rfl, by decide, rfl⟩, fun a' W hB hold he K hK => fx_field 46 (.tmp 9) 2 _ _ rfl (hold 9 (by decide)) (by kernel_rfl) (hK _ (Below.refl _ _))⟩
                · exact .inl ⟨.inr ⟨9, true, _, rfl, ⟨⟨9, .guard⟩, by simp, rfl, rfl⟩, rfl, rfl, by decide, rfl⟩, fun a' W hB hold he K hK => wp_step_load 3 (.tmp 84) _ rfl _ (he ⟨10, .data⟩ (by simp) rfl) (load_int W _ _ _ (cell_bel C2.out hB)) (hK _ (Below.refl _ _))⟩
                · exact .inl ⟨.inr ⟨9, true, _, rfl, ⟨⟨9, .guard⟩, by simp, rfl, rfl⟩, rfl, rfl, by decide, rfl⟩, fun a' W hB hold he K hK => fx_field 46 (.tmp 5) 2 _ _ rfl (hold 5 (by decide)) (by kernel_rfl) (hK _ (Below.refl _ _))⟩
                · exact .inl ⟨.inr ⟨9, true, _, rfl, ⟨⟨9, .guard⟩, by simp, rfl, rfl⟩, rfl, rfl, by decide, rfl⟩, fun a' W hB hold he K hK => wp_step_load 3 (.tmp 86) _ rfl _ (he ⟨12, .data⟩ (by simp) rfl) (load_int W _ _ _ (cell_bel F2.out hB)) (hK _ (Below.refl _ _))⟩
                · exact .inl ⟨.inr ⟨9, true, _, rfl, ⟨⟨9, .guard⟩, by simp, rfl, rfl⟩, rfl, rfl, by decide, rfl⟩, fun a' W hB hold he K hK => fx_move (.tmp 7) _ (.inl rfl) (hold 7 (by decide)) (hK _ (Below.refl _ _))⟩
                · exact .inl ⟨.inr ⟨9, true, _, rfl, ⟨⟨9, .guard⟩, by simp, rfl, rfl⟩, rfl, rfl, by decide, rfl⟩, fun a' W hB hold he K hK => fx_bin .add 3 3 (.tmp 87) (.tmp 88) _ _ _ rfl (he ⟨13, .data⟩ (by simp) rfl) (he ⟨14, .data⟩ (by simp) rfl) rfl (HA2.out _) (hK _ (Below.refl _ _))⟩
                · exact .inl ⟨.inr ⟨9, true, _, rfl, ⟨⟨9, .guard⟩, by simp, rfl, rfl⟩, rfl, rfl, by decide, rfl⟩, fun a' W hB hold he K hK => fx_bin .lss 3 3 (.tmp 85) (.tmp 89) _ _ _ rfl (he ⟨11, .data⟩ (by simp) rfl) (he ⟨15, .data⟩ (by simp) rfl) rfl (HL2.out _) (hK _ (Below.refl _ _))⟩
              intro W hB5
              simp only [putAll, List.length_cons, List.length_nil, Nat.reduceAdd, List.drop_succ_cons, List.drop_zero]
              have HDB : Hid (Below w.heap.size w W) := hide (bel_trans (bel_trans HBB.out (below_box _ _)) hB5)
              have HDG : Hid (Has W g 44 #[.string nm, .int .i64 sz, .slice (some ⟨cb, off, none⟩) n c]) := hide ((HG.out.alloc _).below hB5 (HG.out.alloc _).lt)
              have HDF : Hid (Has W h 46 #[.string fnm, .int .u8 kd, .int .i64 pl, .int .i64 of, .int .i64 nd]) := hide ((HF.out.alloc _).below hB5 (HF.out.alloc _).lt)
              clear hB5 F2 C1 C2 HA1 HA2 HL1 HL2 HSB HBB2
              go_wp2_with fail
              go_ret
              exact ⟨rfl, HDB.out⟩
        · obtain rfl : i = j := by omega
          have HR2 := hide HR1.out
          rw [take_any_none HALL.out, if_neg (by simp)] at HR2
          clear HALL HR1 hij hB
          go_wp2_with fail
          clear g2 f1 f2
          go_loopw [10] (fun x wr => ∃ (x_ : Nat), x_ ≤ i ∧ x = .int .i64 x_ ∧ (∀ i' y, i' < x_ → fs[i']? = some y → (y.kd == kd && decide (kd = 7 ∨ kd = 6)) = false) ∧ Has wr g 44 #[.string nm, .int .i64 sz, .slice (some ⟨cb, off, none⟩) n c] ∧ Has wr h 46 #[.string fnm, .int .u8 kd, .int .i64 pl, .int .i64 of, .int .i64 nd] ∧ Below w.heap.size w wr) (fun x _ => i - (intOf x).toNat)
          case atStart => exact ⟨0, Nat.zero_le _, rfl, fun j y hj => by omega, HG.out, HF.out, HBB.out⟩
          case round =>
            clear HG HF HBB
            obtain ⟨x_, hx_, rfl, hall, hG, hF, hB⟩ := hrel
            have HALL := hide hall
            have HG := hide hG
            have HF := hide hF
            have HBB := hide hB
            have g2 := hG.cell 2
            have f1 := hF.cell 1
            simp at g2 f1
            clear hall hG hF
            by_cases hij : x_ < i
            · have hj1 : (x_ : Int) < i := by omega
              have hj2 : (x_ : Int) < n := by have := HKN.out; omega
              have hj0 : (0 : Int) ≤ x_ := by omega
              obtain ⟨y, hy⟩ : ∃ x, fs[x_]? = some x := ⟨_, List.getElem?_eq_getElem (by have := HL.out; have := HKN.out; omega)⟩
              obtain ⟨_, _, he, e0, e1, e2, e3, e4⟩ := fl_at HC.out hB hy
              cases he
              have HY := hide hy
              clear hy hB e0 e2 e3 e4
              cases q1 : (y.kd == kd) with
              | false =>
                have HN := hide (show (y.kd == kd && decide (kd = 7 ∨ kd = 6)) = false by rw [q1, Bool.false_and])
                go_wp2_with fail
                go_quiet (fail)
                go_wp2_with fail
                go_roundw
                case rel =>
                  refine ⟨x_ + 1, by omega, by simp, fun i' x hi hx => ?_, HG.out.drewN _, HF.out.drewN _, Below.drewN_ HBB.out _⟩
                  rcases Nat.lt_or_ge i' x_ with h | h
                  · exact HALL.out i' x h hx
                  · obtain rfl : i' = x_ := by omega
                    rw [HY.out] at hx
                    obtain rfl := Option.some.inj hx
                    exact HN.out
                case measure => simp [intOf]; omega
              | true =>
                cases q7 : (kd == 7) with
                | true =>
                  have HK67 := hide (show kd = 7 ∨ kd = 6 from .inl (by simpa using q7))
                  have e := HR2.out
                  rw [if_pos ⟨HK67.out, take_any_some (by omega) HY.out q1⟩] at e
                  subst e
                  go_wp2_with fail
                  go_quiet (fail)
                  go_wp2_with fail
                  go_ret
                  exact ⟨rfl, Below.drewN_ HBB.out _⟩
                | false =>
                  cases q6 : (kd == 6) with
                  | true =>
                    have HK67 := hide (show kd = 7 ∨ kd = 6 from .inr (by simpa using q6))
                    have e := HR2.out
                    rw [if_pos ⟨HK67.out, take_any_some (by omega) HY.out q1⟩] at e
                    subst e
                    go_wp2_with fail
                    go_quiet (fail)
                    go_wp2_with fail
                    go_ret
                    exact ⟨rfl, Below.drewN_ HBB.out _⟩
                  | false =>
                    have HN := hide (show (y.kd == kd && decide (kd = 7 ∨ kd = 6)) = false by
                      have h7 : kd ≠ 7 := by simpa using q7
                      have h6 : kd ≠ 6 := by simpa using q6
                      rw [decide_eq_false (by omega), Bool.and_false])
                    go_wp2_with fail
                    go_quiet (fail)
                    go_wp2_with fail
                    go_roundw
                    case rel =>
                      refine ⟨x_ + 1, by omega, by simp, fun i' x hi hx => ?_, HG.out.drewN _, HF.out.drewN _, Below.drewN_ HBB.out _⟩
                      rcases Nat.lt_or_ge i' x_ with h | h
                      · exact HALL.out i' x h hx
                      · obtain rfl : i' = x_ := by omega
                        rw [HY.out] at hx
                        obtain rfl := Option.some.inj hx
                        exact HN.out
                    case measure => simp [intOf]; omega
            · obtain rfl : x_ = i := by omega
              have e := HR2.out
              rw [if_neg (by
                rintro ⟨h1, h2⟩
                rw [List.any_eq_true] at h2
                obtain ⟨y, hy, hk⟩ := h2
                obtain ⟨m, hm⟩ := List.getElem?_of_mem hy
                rw [List.getElem?_take] at hm
                split at hm
                · have := HALL.out m y (by assumption) hm
                  rw [decide_eq_true h1, Bool.and_true] at this
                  rw [this] at hk
                  cases hk
                · cases hm)] at e
              subst e
              clear HALL hij hB
              go_wp2_with fail
              go_ret
              exact ⟨rfl, HBB.out⟩
end Go.Proofs.Ytkflofjcjolehaa
