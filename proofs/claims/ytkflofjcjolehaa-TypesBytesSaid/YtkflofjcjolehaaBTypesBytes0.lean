/- wardenref10.SameType, Same, walked: they answer as package types' own Same does. -/
import Derived.Test.YtkflofjcjolehaaBig5
import Derived.Test.YtkflofjcjolehaaBig7
import Derived.Test.YtkflofjcjolehaaBig14
/-! Types: the document's Same. -/
namespace Go.Proofs.Ytkflofjcjolehaa
open Go.RowKit Go.Proofs.YtkflofjcjolehaaW.PrintWords
set_option maxHeartbeats 4000000
set_option maxRecDepth 100000
set_option linter.unusedSimpArgs false
set_option linter.unusedVariables false

theorem rs_ld (W : World) (b o : Nat) (nm : ByteArray) (sz : Int) (A : Option Addr) (n c : Nat) (h0 : W.cell? ⟨b, o, none⟩ = some (.string nm)) (h1 : W.cell? ⟨b, o + 1, none⟩ = some (.int .i64 sz)) (h2 : W.cell? ⟨b, o + 2, none⟩ = some (.slice A n c)) :
    (Instr.loadAt 44 (.pointer (some ⟨b, o, none⟩))).run Try.prog W = .ok (.agg #[.string nm, .int .i64 sz, .slice A n c]) W := by go_simp

attribute [local go_sem high] eqFl in
theorem rs_type (w : World) (x y : Tp) (A A' : Option Addr) (c c' : Nat) (n n' : Nat) (hl : x.fs.length = n) (hm : y.fs.length = n') (hC : kF.C w A n x.fs) (hC' : kF.C w A' n' y.fs) :
    Calls Try.prog 38 #[.agg #[.string x.nm, .int .i64 x.sz, .slice A n c], .agg #[.string y.nm, .int .i64 y.sz, .slice A' n' c']] w fun e w' => e = .returned (.bool (tpSame x y)) ∧ Below w.heap.size w w' := by
  obtain ⟨xn, xs, l⟩ := x
  obtain ⟨yn, ys, m⟩ := y
  simp only [] at hl hm hC hC'
  have hn : (n : Int) ≤ 9223372036854775807 := by have := hC.2.1; omega
  unfold tpSame
  simp only []
  obtain ⟨g, hg⟩ : ∃ g, w.heap.size = g := ⟨_, rfl⟩
  have hB1 := below_box w (.cells #[.string xn, .int .i64 xs, .slice A n c] 44)
  have hB2 := hide (bel_trans hB1 (below_box _ (.cells #[.string yn, .int .i64 ys, .slice A' n' c'] 44)))
  have HX : Hid (Has ((w.alloc (.cells #[.string xn, .int .i64 xs, .slice A n c] 44)).alloc (.cells #[.string yn, .int .i64 ys, .slice A' n' c'] 44)) g 44 #[.string xn, .int .i64 xs, .slice A n c]) := hide (by rw [← hg]; exact (Has.new _ _ _).alloc _)
  have HY : Hid (Has ((w.alloc (.cells #[.string xn, .int .i64 xs, .slice A n c] 44)).alloc (.cells #[.string yn, .int .i64 ys, .slice A' n' c'] 44)) (g + 1) 44 #[.string yn, .int .i64 ys, .slice A' n' c']) := hide (by have := Has.new (w.alloc (.cells #[.string xn, .int .i64 xs, .slice A n c] 44)) 44 #[.string yn, .int .i64 ys, .slice A' n' c']; rw [World.size_alloc, hg] at this; exact this)
  clear hB1
  have HG := hide hg
  clear hg
  cases h0 : xn.toList == yn.toList with
  | false =>
    rw [Bool.false_and]
    have b0 : (xn.toList != yn.toList) = true := by simp only [bne, h0, Bool.not_false]
    clear hC hC'
    go_enter Try.func38, Try.ntmps38
    go_wp2_with fail
    go_ret
    exact ⟨rfl, hB2.out⟩
  | true =>
    have b0 : (xn.toList != yn.toList) = false := by simp only [bne, h0, Bool.not_true]
    cases h1 : xs == ys with
    | false =>
      rw [Bool.false_and, Bool.and_false]
      have b1 : (xs != ys) = true := by simp only [bne, h1, Bool.not_false]
      clear hC hC'
      go_enter Try.func38, Try.ntmps38
      go_wp2_with fail
      go_ret
      exact ⟨rfl, hB2.out⟩
    | true =>
      have b1 : (xs != ys) = false := by simp only [bne, h1, Bool.not_true]
      rw [Bool.true_and, Bool.true_and]
      by_cases hnn : n = n'
      · subst hnn
        have b2 : ((n : Int) != n) = false := by simp
        have HC := hide hC
        have HC' := hide hC'
        clear hC hC'
        go_enter Try.func38, Try.ntmps38
        go_wp2_with fail
        rw [HG.out]
        go_loopw [5] (fun i wr => ∃ (k : Nat), k ≤ n ∧ i = .int .i64 k ∧ ((l.zip m).take k).all (fun p => flSame p.1 p.2) = true ∧ Has wr g 44 #[.string xn, .int .i64 xs, .slice A n c] ∧ Has wr (g + 1) 44 #[.string yn, .int .i64 ys, .slice A' n c'] ∧ Below w.heap.size w wr) (fun i _ => n - (intOf i).toNat)
        case atStart => exact ⟨0, Nat.zero_le _, rfl, rfl, HX.out, HY.out, hB2.out⟩
        case round =>
          clear HX HY hB2
          obtain ⟨k, hk, rfl, hall, hHX, hHY, hB⟩ := hrel
          have x2 := hHX.cell 2
          have y2 := hHY.cell 2
          simp at x2 y2
          have HHX := hide hHX
          have HHY := hide hHY
          have hxy := hide (hall)
          have hBB := hide hB
          clear hHX hHY hall hB
          by_cases hd : k < n
          · have hd' : (k : Int) < n := by omega
            obtain ⟨x, hx⟩ : ∃ x, l[k]? = some x := ⟨_, List.getElem?_eq_getElem (by rw [hl]; exact hd)⟩
            obtain ⟨y, hy⟩ : ∃ x, m[k]? = some x := ⟨_, List.getElem?_eq_getElem (by rw [hm]; exact hd)⟩
            obtain ⟨cb, off, rfl, e0, e1, e2, e3, e4⟩ := fl_at HC.out hBB.out hx
            obtain ⟨cb', off', rfl, f0, f1, f2, f3, f4⟩ := fl_at HC'.out hBB.out hy
            have hd2 : decide ((k : Int) < n) = true := decide_eq_true hd'
            have hk0 : (0 : Int) ≤ k := by omega
            have hX := hide hx
            have hY := hide hy
            clear hx hy
            cases ht : flSame ⟨x.nm, x.kd, x.at_, x.of, x.node⟩ ⟨y.nm, y.kd, y.at_, y.of, y.node⟩ with
            | true =>
              go_wp2_with fail
              go_quiet (fail)
              go_wp2_with fail
              go_roundw
              case rel =>
                refine ⟨k + 1, by omega, by simp, ?_, HHX.out.drewN _, HHY.out.drewN _, Below.drewN_ hBB.out _⟩
                rw [zip_all_step flSame hX.out hY.out, hxy.out, Bool.true_and]
                exact ht
              case measure => simp [intOf]; omega
            | false =>
              go_wp2_with fail
              go_quiet (fail)
              go_wp2_with fail
              go_ret
              exact ⟨by unfold flsSame; rw [zip_all_false flSame hX.out hY.out ht, Bool.and_false]; rfl, Below.drewN_ hBB.out _⟩
          · have hkn : k = n := by omega
            subst hkn
            have hd2 : decide ((k : Int) < k) = false := by simp
            go_wp2_with fail
            go_ret
            refine ⟨?_, hBB.out⟩
            have hall := hxy.out
            unfold flsSame
            rw [decide_eq_true (by omega), Bool.true_and]
            rw [List.take_of_length_le (by simp; omega)] at hall
            rw [hall]
            rfl
      · have b2 : ((n : Int) != n') = true := by simp; omega
        have hr : flsSame l m = false := by unfold flsSame; rw [decide_eq_false (by omega), Bool.false_and]
        rw [hr]
        clear hC hC' hl hm hr hnn
        go_enter Try.func38, Try.ntmps38
        go_wp2_with fail
        go_ret
        exact ⟨rfl, hB2.out⟩

theorem rs_same (w : World) (A A' : Option Addr) (c c' : Nat) (l m : List Tp) (n n' : Nat) (hl : l.length = n) (hm : m.length = n') (hC : kT.C w A n l) (hC' : kT.C w A' n' m) :
    Calls Try.prog 16 #[.slice A n c, .slice A' n' c'] w fun e w' => e = .returned (.bool (tysSame l m)) ∧ Below w.heap.size w w' := by
  have hn : (n : Int) ≤ 9223372036854775807 := by have := hC.2.1; omega
  by_cases hnn : n = n'
  · subst hnn
    have b2 : ((n : Int) != n) = false := by simp
    have HC := hide hC
    have HC' := hide hC'
    clear hC hC'
    go_enter Try.func16, Try.ntmps16
    go_wp2_with fail
    go_loopw [5] (fun i wr => ∃ (k : Nat), k ≤ n ∧ i = .int .i64 k ∧ ((l.zip m).take k).all (fun p => tpSame p.1 p.2) = true ∧ Below w.heap.size w wr) (fun i _ => n - (intOf i).toNat)
    case atStart => exact ⟨0, Nat.zero_le _, rfl, rfl, Below.refl _ w⟩
    case round =>
      obtain ⟨k, hk, rfl, hall, hB⟩ := hrel
      have hxy := hide (hall)
      have HB := hide hB
      clear hall hB
      by_cases hd : k < n
      · have hd' : (k : Int) < n := by omega
        obtain ⟨x, hx⟩ : ∃ x, l[k]? = some x := ⟨_, List.getElem?_eq_getElem (by rw [hl]; exact hd)⟩
        obtain ⟨y, hy⟩ : ∃ x, m[k]? = some x := ⟨_, List.getElem?_eq_getElem (by rw [hm]; exact hd)⟩
        obtain ⟨cb, off, A2, c2, rfl, e0, e1, e2, hl2, hF⟩ := tp_at HC.out HB.out hx
        obtain ⟨cb', off', A3, c3, rfl, f0, f1, f2, hl3, hF'⟩ := tp_at HC'.out HB.out hy
        have hd2 : decide ((k : Int) < n) = true := decide_eq_true hd'
        have hk0 : (0 : Int) ≤ k := by omega
        obtain ⟨U, hU⟩ : ∃ U, x.fs.length = U := ⟨_, rfl⟩
        obtain ⟨V, hV⟩ : ∃ V, y.fs.length = V := ⟨_, rfl⟩
        rw [hU] at e2 hF
        rw [hV] at f2 hF'
        have HQ := hide (fun W (hW : Below w.heap.size w W) => rs_type W x y A2 A3 c2 c3 U V hU hV (Kd.C_below hF hW) (Kd.C_below hF' hW))
        have hX := hide hx
        have hY := hide hy
        have E0 := hide e0
        have E1 := hide e1
        have E2 := hide e2
        have F0 := hide f0
        have F1 := hide f1
        have F2 := hide f2
        clear hx hy hU hV hF hF' hl2 hl3 e0 e1 e2 f0 f1 f2
        cases ht : tpSame x y with
        | true =>
          rw [ht] at HQ
          have HT := hide ht
          clear ht
          go_wp2_with fail
          refine wp_region_fixed [17, 18, 19, 20, 21, 22, 23, 24, 25]
            [.slice (some ⟨cb, off, none⟩) n c, .int .i64 (k : Int), .pointer (some ⟨cb, off + k * 3, none⟩), .agg #[.string x.nm, .int .i64 x.sz, .slice A2 U c2], .slice (some ⟨cb', off', none⟩) n c', .int .i64 (k : Int), .pointer (some ⟨cb', off' + k * 3, none⟩), .agg #[.string y.nm, .int .i64 y.sz, .slice A3 V c3], .bool true] (by kernel_rfl) (by simp) rfl (by kernel_rfl) (by kernel_rfl) (by kernel_rfl) (by simp) (by decide) ?_ ?_
          · refine ⟨?_, ?_, ?_, ?_, ?_, ?_, ?_, ?_, ?_, trivial⟩
            · exact .inl ⟨.inl rfl, fun a' W hB hold he K hK => fx_move (.tmp 0) _ (.inl rfl) (hold 0 (by decide)) (hK _ (Below.refl _ _))⟩
            · exact .inl ⟨.inl rfl, fun a' W hB hold he K hK => fx_move (.tmp 5) _ (.inl rfl) (hold 5 (by decide)) (hK _ (Below.refl _ _))⟩
            · exact .inl ⟨.inl rfl, fun a' W hB hold he K hK => (by have h0 : a'.eval (.tmp 17) = _ := (he ⟨0, .data⟩ (by simp) rfl); have h1 : a'.eval (.tmp 18) = _ := (he ⟨1, .data⟩ (by simp) rfl); exact wp_step_run (.pointer (some ⟨cb, off + k * 3, none⟩)) (by simp only [execOp, h0, h1]; go_simp) (hK _ (Below.refl _ _)))⟩
            · exact .inl ⟨.inl rfl, fun a' W hB hold he K hK => wp_step_load 44 (.tmp 19) _ rfl _ (he ⟨2, .data⟩ (by simp) rfl) (rs_ld W _ _ _ _ _ _ _ (cell_bel E0.out hB) (cell_bel E1.out hB) (cell_bel E2.out hB)) (hK _ (Below.refl _ _))⟩
            · exact .inl ⟨.inl rfl, fun a' W hB hold he K hK => fx_move (.tmp 1) _ (.inl rfl) (hold 1 (by decide)) (hK _ (Below.refl _ _))⟩
            · exact .inl ⟨.inl rfl, fun a' W hB hold he K hK => fx_move (.tmp 5) _ (.inl rfl) (hold 5 (by decide)) (hK _ (Below.refl _ _))⟩
            · exact .inl ⟨.inl rfl, fun a' W hB hold he K hK => (by have h0 : a'.eval (.tmp 21) = _ := (he ⟨4, .data⟩ (by simp) rfl); have h1 : a'.eval (.tmp 22) = _ := (he ⟨5, .data⟩ (by simp) rfl); exact wp_step_run (.pointer (some ⟨cb', off' + k * 3, none⟩)) (by simp only [execOp, h0, h1]; go_simp) (hK _ (Below.refl _ _)))⟩
            · exact .inl ⟨.inl rfl, fun a' W hB hold he K hK => wp_step_load 44 (.tmp 23) _ rfl _ (he ⟨6, .data⟩ (by simp) rfl) (rs_ld W _ _ _ _ _ _ _ (cell_bel F0.out hB) (cell_bel F1.out hB) (cell_bel F2.out hB)) (hK _ (Below.refl _ _))⟩
            · exact .inl ⟨.inl rfl, fun a' W hB hold he K hK => (by have h0 : a'.eval (.tmp 20) = _ := (he ⟨3, .data⟩ (by simp) rfl); have h1 : a'.eval (.tmp 24) = _ := (he ⟨7, .data⟩ (by simp) rfl); exact wp_step_call 38 #[_, _] (by simp only [execOp, h0, h1]; simp [go_sem] <;> (simp [Act.eval] at h0 h1; simp [h0, h1])) ((HQ.out W (bel_trans HB.out hB)).mono (by rintro e1 w' ⟨rfl, hb⟩; exact ⟨_, rfl, hK _ hb⟩)))⟩
          intro W hB5
          simp only [putAll, List.length_cons, List.length_nil, Nat.reduceAdd, List.drop_succ_cons, List.drop_zero]
          have HB5 := hide (bel_trans HB.out hB5)
          clear hB5
          go_wp2_with fail
          go_roundw
          case rel =>
            refine ⟨k + 1, by omega, by rw [show (((k + 1 : Nat)) : Int) = (k : Int) + 1 by omega], ?_, HB5.out⟩
            rw [zip_all_step tpSame hX.out hY.out, hxy.out, Bool.true_and]
            exact HT.out
          case measure => simp [intOf]; omega
        | false =>
          rw [ht] at HQ
          have HT := hide ht
          clear ht
          go_wp2_with fail
          refine wp_region_fixed [17, 18, 19, 20, 21, 22, 23, 24, 25]
            [.slice (some ⟨cb, off, none⟩) n c, .int .i64 (k : Int), .pointer (some ⟨cb, off + k * 3, none⟩), .agg #[.string x.nm, .int .i64 x.sz, .slice A2 U c2], .slice (some ⟨cb', off', none⟩) n c', .int .i64 (k : Int), .pointer (some ⟨cb', off' + k * 3, none⟩), .agg #[.string y.nm, .int .i64 y.sz, .slice A3 V c3], .bool false] (by kernel_rfl) (by simp) rfl (by kernel_rfl) (by kernel_rfl) (by kernel_rfl) (by simp) (by decide) ?_ ?_
          · refine ⟨?_, ?_, ?_, ?_, ?_, ?_, ?_, ?_, ?_, trivial⟩
            · exact .inl ⟨.inl rfl, fun a' W hB hold he K hK => fx_move (.tmp 0) _ (.inl rfl) (hold 0 (by decide)) (hK _ (Below.refl _ _))⟩
            · exact .inl ⟨.inl rfl, fun a' W hB hold he K hK => fx_move (.tmp 5) _ (.inl rfl) (hold 5 (by decide)) (hK _ (Below.refl _ _))⟩
            · exact .inl ⟨.inl rfl, fun a' W hB hold he K hK => (by have h0 : a'.eval (.tmp 17) = _ := (he ⟨0, .data⟩ (by simp) rfl); have h1 : a'.eval (.tmp 18) = _ := (he ⟨1, .data⟩ (by simp) rfl); exact wp_step_run (.pointer (some ⟨cb, off + k * 3, none⟩)) (by simp only [execOp, h0, h1]; go_simp) (hK _ (Below.refl _ _)))⟩
            · exact .inl ⟨.inl rfl, fun a' W hB hold he K hK => wp_step_load 44 (.tmp 19) _ rfl _ (he ⟨2, .data⟩ (by simp) rfl) (rs_ld W _ _ _ _ _ _ _ (cell_bel E0.out hB) (cell_bel E1.out hB) (cell_bel E2.out hB)) (hK _ (Below.refl _ _))⟩
            · exact .inl ⟨.inl rfl, fun a' W hB hold he K hK => fx_move (.tmp 1) _ (.inl rfl) (hold 1 (by decide)) (hK _ (Below.refl _ _))⟩
            · exact .inl ⟨.inl rfl, fun a' W hB hold he K hK => fx_move (.tmp 5) _ (.inl rfl) (hold 5 (by decide)) (hK _ (Below.refl _ _))⟩
            · exact .inl ⟨.inl rfl, fun a' W hB hold he K hK => (by have h0 : a'.eval (.tmp 21) = _ := (he ⟨4, .data⟩ (by simp) rfl); have h1 : a'.eval (.tmp 22) = _ := (he ⟨5, .data⟩ (by simp) rfl); exact wp_step_run (.pointer (some ⟨cb', off' + k * 3, none⟩)) (by simp only [execOp, h0, h1]; go_simp) (hK _ (Below.refl _ _)))⟩
            · exact .inl ⟨.inl rfl, fun a' W hB hold he K hK => wp_step_load 44 (.tmp 23) _ rfl _ (he ⟨6, .data⟩ (by simp) rfl) (rs_ld W _ _ _ _ _ _ _ (cell_bel F0.out hB) (cell_bel F1.out hB) (cell_bel F2.out hB)) (hK _ (Below.refl _ _))⟩
            · exact .inl ⟨.inl rfl, fun a' W hB hold he K hK => (by have h0 : a'.eval (.tmp 20) = _ := (he ⟨3, .data⟩ (by simp) rfl); have h1 : a'.eval (.tmp 24) = _ := (he ⟨7, .data⟩ (by simp) rfl); exact wp_step_call 38 #[_, _] (by simp only [execOp, h0, h1]; simp [go_sem] <;> (simp [Act.eval] at h0 h1; simp [h0, h1])) ((HQ.out W (bel_trans HB.out hB)).mono (by rintro e1 w' ⟨rfl, hb⟩; exact ⟨_, rfl, hK _ hb⟩)))⟩
          intro W hB5
          simp only [putAll, List.length_cons, List.length_nil, Nat.reduceAdd, List.drop_succ_cons, List.drop_zero]
          have HB5 := hide (bel_trans HB.out hB5)
          clear hB5
          go_wp2_with fail
          go_ret
          exact ⟨by unfold tysSame; rw [zip_all_false tpSame hX.out hY.out HT.out, Bool.and_false]; rfl, HB5.out⟩
      · have hkn : k = n := by omega
        subst hkn
        have hd2 : decide ((k : Int) < k) = false := by simp
        go_wp2_with fail
        go_ret
        refine ⟨?_, HB.out⟩
        have hall := hxy.out
        unfold tysSame
        rw [decide_eq_true (by omega), Bool.true_and]
        rw [List.take_of_length_le (by simp; omega)] at hall
        rw [hall]
        rfl
  · have b2 : ((n : Int) != n') = true := by simp; omega
    have hr : tysSame l m = false := by unfold tysSame; rw [decide_eq_false (by omega), Bool.false_and]
    rw [hr]
    clear hC hC' hl hm hr hnn
    go_enter Try.func16, Try.ntmps16
    go_wp2_with fail
    go_ret
    exact ⟨rfl, Below.refl _ w⟩
end Go.Proofs.Ytkflofjcjolehaa
