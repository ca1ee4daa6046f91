/- The law TypesPlains, walked: it returns true, whatever table it is handed. -/
import Derived.Test.YtkflofjcjolehaaBig17
import Derived.Test.YtkflofjcjolehaaBig15
import Derived.Test.YtkflofjcjolehaaBig14
/-! Types: Plains. -/
namespace Go.Proofs.Ytkflofjcjolehaa
open Go.RowKit Go.Proofs.YtkflofjcjolehaaW.PrintWords
set_option maxHeartbeats 4000000
set_option maxRecDepth 100000
set_option linter.unusedSimpArgs false
set_option linter.unusedVariables false

theorem load_tp (W : World) (b : Nat) (nm : ByteArray) (sz : Int) (A : Option Addr) (n c : Nat) (h0 : W.cell? ⟨b, 0, none⟩ = some (.string nm)) (h1 : W.cell? ⟨b, 1, none⟩ = some (.int .i64 sz)) (h2 : W.cell? ⟨b, 2, none⟩ = some (.slice A n c)) :
    (Instr.loadAt 44 (.pointer (some ⟨b, 0, none⟩))).run Try.prog W = .ok (.agg #[.string nm, .int .i64 sz, .slice A n c]) W := by go_simp

theorem plains_walk (w : World) (A : Option Addr) (n c : Nat) (l : List Tp) (hl : l.length = n) (hc : n ≤ c) (hC : kT.C w A n l) (hrd : rdTps l) (a1 : Int) (w1 : (Lit.int .u8 a1).wf = true) (a2 : Int) (w2 : (Lit.int .u8 a2).wf = true) (a3 : Int) (w3 : (Lit.int .u8 a3).wf = true) :
    Calls Try.prog 7 #[.slice A n c, .int .u8 a1, .int .u8 a2, .int .u8 a3] w fun e w' => e = .returned (.bool true) ∧ Below w.heap.size w w' := by
  have b1 := wf_u8 w1
  have b2 := wf_u8 w2
  have b3 := wf_u8 w3
  obtain ⟨a10, a11⟩ := b1
  obtain ⟨a20, a21⟩ := b2
  obtain ⟨a30, a31⟩ := b3
  clear w1 w2 w3
  have HLG := hide (Lg.law_large w A c l n hl hC hc hrd)
  have HL := hide hl
  have HC := hide hC
  have HR := hide hrd
  have HK := hide hc
  clear hl hC hrd hc
  cases hlg : largeF l with
  | true =>
    rw [hlg] at HLG
    go_enter Try.func7, Try.ntmps7
    go_wp2_with fail
    refine HLG.out.mono ?_
    rintro e w1 ⟨rfl, hB1⟩
    have HB1 := hide hB1
    clear hB1
    go_wp2_with fail
    refine (law_alive _).mono ?_
    rintro e w2 ⟨rfl, hB2⟩
    go_wp2_with fail
    go_ret
    exact ⟨rfl, bel_trans HB1.out hB2⟩
  | false =>
    rw [hlg] at HLG
    have HS := hide (small_of HR.out hlg)
    have hn40 : n ≤ 40 := by rw [← HL.out]; exact HS.out.len
    clear hlg
    by_cases hn0 : n = 0
    · have d0 : ((n : Int) == 0) = true := by rw [hn0]; rfl
      clear hn0
      go_enter Try.func7, Try.ntmps7
      go_wp2_with fail
      refine HLG.out.mono ?_
      rintro e w1 ⟨rfl, hB1⟩
      have HB1 := hide hB1
      clear hB1
      go_wp2_with fail
      refine (law_alive _).mono ?_
      rintro e w2 ⟨rfl, hB2⟩
      go_wp2_with fail
      go_ret
      exact ⟨rfl, bel_trans HB1.out hB2⟩
    have hnp : 0 < n := by omega
    have d0 : ((n : Int) == 0) = false := beq_eq_false_iff_ne.2 (by omega)
    have HCK := hide (fun W (hW : Below w.heap.size w W) => ty_check W A c l n HL.out (Kd.C_below HC.out hW) HK.out HS.out.ok)
    obtain ⟨r1, hr1⟩ : ∃ r, (checkF l).1 = r := ⟨_, rfl⟩
    obtain ⟨r2, hr2⟩ : ∃ r, (checkF l).2.1 = r := ⟨_, rfl⟩
    obtain ⟨r3, hr3⟩ : ∃ r, (checkF l).2.2 = r := ⟨_, rfl⟩
    rw [hr1, hr2, hr3] at HCK
    by_cases hz : r3 = 0
    · subst hz
      have HOK := hide (checkF_ok hr3)
      clear hr1 hr2 hr3 hn0
      obtain ⟨m, hm⟩ : ∃ m : Nat, a1 % (n : Int) = m := ⟨(a1 % (n : Int)).toNat, by have := Int.emod_nonneg a1 (show (n : Int) ≠ 0 by omega); omega⟩
      have hmn : m < n := by have := Int.emod_lt_of_pos a1 (show (0 : Int) < n by omega); omega
      obtain ⟨t, ht⟩ : ∃ t, l[m]? = some t := ⟨_, List.getElem?_eq_getElem (by rw [HL.out]; exact hmn)⟩
      obtain ⟨hT, _⟩ := HOK.out m t ht
      have HT := hide hT
      have HTM := hide ht
      clear hT ht HOK
      go_enter Try.func7, Try.ntmps7
      go_wp2_with fail
      refine HLG.out.mono ?_
      rintro e w1 ⟨rfl, hB1⟩
      have HB1 := hide hB1
      clear hB1 HLG
      go_wp2_with fail
      refine (HCK.out _ HB1.out).mono ?_
      rintro e w2 ⟨rfl, hB2⟩
      have HB2 := hide (bel_trans HB1.out hB2)
      clear hB2 HCK HB1
      obtain ⟨cb, off, A2, c2, rfl, e0, e1, e2, hl2, hF⟩ := tp_at HC.out HB2.out HTM.out
      have HF := hide hF
      have HL2 := hide hl2
      clear hF hl2
      have hm0 : (0 : Int) ≤ m := by omega
      have hmn' : (m : Int) < n := by omega
      go_wp2_with fail
      obtain ⟨q, hq⟩ : ∃ q : Nat, 1 + a3 % 32 = q := ⟨(1 + a3 % 32).toNat, by omega⟩
      have hq1 : 1 ≤ q ∧ q ≤ 32 := by omega
      rw [hq]
      obtain ⟨g, hg⟩ : ∃ g, w2.heap.size = g := ⟨_, rfl⟩
      have hG0 : Has (w2.alloc (Obj.cells #[Value.string t.nm, Value.int IntKind.i64 t.sz, Value.slice A2 t.fs.length c2] 44)) g 44 #[Value.string t.nm, Value.int IntKind.i64 t.sz, Value.slice A2 t.fs.length c2] := by rw [← hg]; exact Has.new _ _ _
      have hG1 : Below w.heap.size w (w2.alloc (Obj.cells #[Value.string t.nm, Value.int IntKind.i64 t.sz, Value.slice A2 t.fs.length c2] 44)) := bel_trans HB2.out (below_box _ _)
      have hgw : w.heap.size ≤ g := by rw [← hg]; exact HB2.out.size
      have HG0 := hide hG0
      have HG1 := hide hG1
      have HGW := hide hgw
      rw [hg]
      clear hG0 hG1 hg hq e0 e1 e2 hgw HB2 hm hm0 hmn' hmn
      obtain ⟨N, hN⟩ : ∃ N, t.fs.length = N := ⟨_, rfl⟩
      rw [hN] at HG0 HG1 HF HL2 ⊢
      have HN := hide hN
      clear hN
      have hN8 : N ≤ 8 := by rw [← HN.out]; exact HT.out.few
      have HP := hide (fun W (hW : Below w.heap.size w W) x n => ty_plain W t.nm t.sz A2 c2 t.fs N HN.out (Kd.C_below HF.out hW) x n)
      go_loopw [15, 16] (fun all i wr => ∃ (j : Nat) (b : Bool), j ≤ q ∧ i = .int .i64 j ∧ all = .bool b ∧ (b = true ↔ ∀ m : Nat, m < j → plainF t.sz t.fs (a2 + m) 1 = true) ∧ Has wr g 44 #[Value.string t.nm, Value.int IntKind.i64 t.sz, Value.slice A2 N c2] ∧ Below w.heap.size w wr) (fun _ i _ => q - (intOf i).toNat)
      case atStart => exact ⟨0, true, Nat.zero_le _, rfl, rfl, ⟨fun _ m hm => by omega, fun _ => rfl⟩, HG0.out, HG1.out⟩
      case round =>
        clear HG0 HG1
        obtain ⟨j, b, hj, rfl, rfl, hall, hH, hB⟩ := hrel
        have HALL := hide hall
        have HB := hide hB
        have HH := hide hH
        clear hall hB
        have g0 := hH.cell 0
        have g1 := hH.cell 1
        have g2 := hH.cell 2
        simp at g0 g1 g2
        clear hH
        by_cases hjq : j < q
        · have hjq' : (j : Int) < q := by omega
          have hj0 : (0 : Int) ≤ j := by omega
          cases b with
          | true =>
            obtain ⟨p, hp⟩ : ∃ p, plainF t.sz t.fs (a2 + j) 1 = p := ⟨_, rfl⟩
            have HPJ := hide (HP.out _ HB.out (a2 + j) 1)
            rw [hp] at HPJ
            have HPE := hide hp
            clear hp
            go_wp2_with fail
            refine HPJ.out.mono ?_
            rintro e w3 ⟨rfl, hB3⟩
            go_wp2_with fail
            go_roundw
            case rel =>
              refine ⟨j + 1, p, by omega, by simp, rfl, ⟨fun h m hm => ?_, fun h => ?_⟩, HH.out.below hB3 HH.out.lt, bel_trans HB.out hB3⟩
              · rcases Nat.lt_or_ge m j with h3 | h3
                · exact HALL.out.1 (by simp) m h3
                · obtain rfl : m = j := by omega
                  rw [HPE.out]; exact h
              · rw [← HPE.out]; exact h j (by omega)
            case measure => simp [intOf]; omega
          | false =>
            go_wp2_with fail
            go_roundw
            case rel =>
              refine ⟨j + 1, false, by omega, by simp, rfl, ⟨(fun h => by cases h), fun h => ?_⟩, HH.out, HB.out⟩
              exact HALL.out.2 (fun m hm => h m (by omega))
            case measure => simp [intOf]; omega
        · obtain rfl : j = q := by omega
          have hpq : Hid (plainF t.sz t.fs a2 j = b) := by
            exact hide (Bool.eq_iff_iff.2 ((plains_all HT.out (x := a2) (by omega) (q := j) hq1).trans HALL.out.symm))
          clear HALL hjq
          go_wp2_with fail
          go_loopw [17] (fun i wr => ∃ (k : Nat), k ≤ N ∧ i = .int .i64 k ∧ Has wr g 44 #[Value.string t.nm, Value.int IntKind.i64 t.sz, Value.slice A2 N c2] ∧ Below w.heap.size w wr) (fun i _ => N - (intOf i).toNat)
          case atStart => exact ⟨0, Nat.zero_le _, rfl, HH.out, HB.out⟩
          case round =>
            clear HB HH g0 g1 g2
            obtain ⟨k, hk, rfl, hH, hB⟩ := hrel
            have HB := hide hB
            have HH := hide hH
            clear hB
            have g0 := hH.cell 0
            have g1 := hH.cell 1
            have g2 := hH.cell 2
            simp at g0 g1 g2
            clear hH
            by_cases hkN : k < N
            · have hk1 : (k : Int) < N := by omega
              have hk0 : (0 : Int) ≤ k := by omega
              obtain ⟨f, hf⟩ : ∃ f, t.fs[k]? = some f := ⟨_, List.getElem?_eq_getElem (by rw [HN.out]; exact hkN)⟩
              obtain ⟨fb, fo, rfl, e0, e1, e2, _, _⟩ := fl_at HF.out HB.out hf
              have hs := small_at HT.out f (List.mem_of_getElem? hf)
              have hsz := HT.out.size
              have np1 := hide (plains_in HT.out (List.mem_of_getElem? hf) (y := f.at_) (by omega) (by omega))
              have np2 := hide (plains_in HT.out (List.mem_of_getElem? hf) (y := f.at_ + szK f.kd - 1) (by omega) (by omega))
              obtain ⟨at_, hat⟩ : ∃ a, f.at_ = a := ⟨_, rfl⟩
              obtain ⟨kd, hkd⟩ : ∃ a, f.kd = a := ⟨_, rfl⟩
              rw [hat, hkd] at hs np2
              rw [hat] at np1 e2
              rw [hkd] at e1
              obtain ⟨z, hz⟩ : ∃ z, szK kd = z := ⟨_, rfl⟩
              have HSZ := hide (fun W => ty_size W kd)
              rw [hz] at HSZ hs np2
              clear hf hat hkd hz e0
              obtain ⟨q0, q1, q2, q3⟩ := hs
              have u1 : at_ + z ≤ 1000 := by omega
              have v1 : IntKind.i64.wrap (at_ + z) = at_ + z := by rw [w64]; unfold wrap64; omega
              have v2 : IntKind.i64.wrap (at_ + z - 1) = at_ + z - 1 := by rw [w64]; unfold wrap64; omega
              have P1 := hide (fun W (hW : Below w.heap.size w W) => HP.out W hW at_ 1)
              rw [np1.out] at P1
              have P2 := hide (fun W (hW : Below w.heap.size w W) => HP.out W hW (at_ + z - 1) 1)
              rw [np2.out] at P2
              have G0 := hide (HH.out.cell 0)
              have G1 := hide (HH.out.cell 1)
              have G2 := hide (HH.out.cell 2)
              have E1 := hide e1
              have E2 := hide e2
              have hadd : ∀ W : World, (binOp .add 3 (.int .i64 at_) (.int .i64 z)).run Try.prog W = .ok (.int .i64 (at_ + z)) W := fun W => by simp [go_sem, v1]
              have hsub : ∀ W : World, (binOp .sub 3 (.int .i64 (at_ + z)) (.int .i64 1)).run Try.prog W = .ok (.int .i64 (at_ + z - 1)) W := fun W => by simp [go_sem, v2]
              have HADD := hide hadd
              have HSUB := hide hsub
              have HSB : Hid (∀ W, Calls Try.prog 21 #[.int .u8 kd] W fun e w' => e = .returned (.int .i64 z) ∧ Below W.heap.size W w') := hide (fun W => (HSZ.out W).mono (by rintro e w' ⟨rfl, rfl⟩; exact ⟨rfl, Below.refl _ _⟩))
              clear hadd hsub v1 v2 e1 e2 g0 g1 q0 q1 q2 q3 u1 hsz np1 np2 HSZ
              go_wp2_with fail
              refine wp_region_fixed [69, 70, 71, 72, 73, 74, 75, 76, 77, 78, 79, 80, 81, 82, 83, 84, 85, 86, 87, 88, 89, 90, 91, 92, 93, 94]
                [.agg #[.string t.nm, .int .i64 t.sz, .slice (some ⟨fb, fo, none⟩) N c2], .pointer (some ⟨g, 2, none⟩), .slice (some ⟨fb, fo, none⟩) N c2, .int .i64 (k : Int), .pointer (some ⟨fb, fo + k * 5, none⟩), .pointer (some ⟨fb, fo + k * 5 + 2, none⟩), .int .i64 at_, .bool false, .bool false, .agg #[.string t.nm, .int .i64 t.sz, .slice (some ⟨fb, fo, none⟩) N c2], .pointer (some ⟨g, 2, none⟩), .slice (some ⟨fb, fo, none⟩) N c2, .int .i64 (k : Int), .pointer (some ⟨fb, fo + k * 5, none⟩), .pointer (some ⟨fb, fo + k * 5 + 2, none⟩), .int .i64 at_, .pointer (some ⟨g, 2, none⟩), .slice (some ⟨fb, fo, none⟩) N c2, .int .i64 (k : Int), .pointer (some ⟨fb, fo + k * 5, none⟩), .pointer (some ⟨fb, fo + k * 5 + 1, none⟩), .int .u8 kd, .int .i64 z, .int .i64 (at_ + z), .int .i64 (at_ + z - 1), .bool false] (by kernel_rfl) (by simp) rfl (by kernel_rfl) (by kernel_rfl) (by kernel_rfl) (by simp) (by decide) ?_ ?_
              · refine ⟨?_, ?_, ?_, ?_, ?_, ?_, ?_, ?_, ?_, ?_, ?_, ?_, ?_, ?_, ?_, ?_, ?_, ?_, ?_, ?_, ?_, ?_, ?_, ?_, ?_, ?_, trivial⟩
                · exact .inl ⟨.inl rfl, fun a' W hB hold he K hK => wp_step_load 44 (.tmp 12) _ rfl _ (hold 12 (by decide)) (load_tp W _ _ _ _ _ _ (cell_bel G0.out hB) (cell_bel G1.out hB) (cell_bel G2.out hB)) (hK _ (Below.refl _ _))⟩
                · exact .inl ⟨.inl rfl, fun a' W hB hold he K hK => fx_field 44 (.tmp 12) 2 _ _ rfl (hold 12 (by decide)) (by kernel_rfl) (hK _ (Below.refl _ _))⟩
                · exact .inl ⟨.inl rfl, fun a' W hB hold he K hK => wp_step_load 42 (.tmp 70) _ rfl _ (he ⟨1, .data⟩ (by simp) rfl) (load_fs W _ _ _ _ _ (cell_bel G2.out hB)) (hK _ (Below.refl _ _))⟩
                · exact .inl ⟨.inl rfl, fun a' W hB hold he K hK => fx_move (.tmp 17) _ (.inl rfl) (hold 17 (by decide)) (hK _ (Below.refl _ _))⟩
                · exact .inl ⟨.inl rfl, fun a' W hB hold he K hK => (by have h0 : a'.eval (.tmp 71) = _ := (he ⟨2, .data⟩ (by simp) rfl); have h1 : a'.eval (.tmp 72) = _ := (he ⟨3, .data⟩ (by simp) rfl); exact wp_step_run (.pointer (some ⟨fb, fo + k * 5, none⟩)) (by simp only [execOp, h0, h1]; go_simp) (hK _ (Below.refl _ _)))⟩
                · exact .inl ⟨.inl rfl, fun a' W hB hold he K hK => fx_field 46 (.tmp 73) 2 _ _ rfl (he ⟨4, .data⟩ (by simp) rfl) (by kernel_rfl) (hK _ (Below.refl _ _))⟩
                · exact .inl ⟨.inl rfl, fun a' W hB hold he K hK => wp_step_load 3 (.tmp 74) _ rfl _ (he ⟨5, .data⟩ (by simp) rfl) (load_int W _ _ _ (cell_bel E2.out hB)) (hK _ (Below.refl _ _))⟩
                · exact .inl ⟨.inl rfl, fun a' W hB hold he K hK => (by have h0 : a'.eval (.tmp 69) = _ := (he ⟨0, .data⟩ (by simp) rfl); have h1 : a'.eval (.tmp 75) = _ := (he ⟨6, .data⟩ (by simp) rfl); exact wp_step_call 20 #[_, _, _] (by simp only [execOp, h0, h1]; simp [go_sem] <;> simp_all [Act.eval]) ((P1.out W (bel_trans HB.out hB)).mono (by rintro e1 w' ⟨rfl, hb⟩; exact ⟨_, rfl, hK _ hb⟩)))⟩
                · exact .inl ⟨.inl rfl, fun a' W hB hold he K hK => fx_move (.tmp 76) _ (.inl rfl) (he ⟨7, .data⟩ (by simp) rfl) (hK _ (Below.refl _ _))⟩
                · exact .inl ⟨.inr ⟨8, false, _, rfl, ⟨⟨8, .guard⟩, by simp, rfl, rfl⟩, rfl, rfl, by decide, rfl⟩, fun a' W hB hold he K hK => wp_step_load 44 (.tmp 12) _ rfl _ (hold 12 (by decide)) (load_tp W _ _ _ _ _ _ (cell_bel G0.out hB) (cell_bel G1.out hB) (cell_bel G2.out hB)) (hK _ (Below.refl _ _))⟩
                · exact .inl ⟨.inr ⟨8, false, _, rfl, ⟨⟨8, .guard⟩, by simp, rfl, rfl⟩, rfl, rfl, by decide, rfl⟩, fun a' W hB hold he K hK => fx_field 44 (.tmp 12) 2 _ _ rfl (hold 12 (by decide)) (by kernel_rfl) (hK _ (Below.refl _ _))⟩
                · exact .inl ⟨.inr ⟨8, false, _, rfl, ⟨⟨8, .guard⟩, by simp, rfl, rfl⟩, rfl, rfl, by decide, rfl⟩, fun a' W hB hold he K hK => wp_step_load 42 (.tmp 79) _ rfl _ (he ⟨10, .data⟩ (by simp) rfl) (load_fs W _ _ _ _ _ (cell_bel G2.out hB)) (hK _ (Below.refl _ _))⟩
                · exact .inl ⟨.inr ⟨8, false, _, rfl, ⟨⟨8, .guard⟩, by simp, rfl, rfl⟩, rfl, rfl, by decide, rfl⟩, fun a' W hB hold he K hK => fx_move (.tmp 17) _ (.inl rfl) (hold 17 (by decide)) (hK _ (Below.refl _ _))⟩
                · exact .inl ⟨.inr ⟨8, false, _, rfl, ⟨⟨8, .guard⟩, by simp, rfl, rfl⟩, rfl, rfl, by decide, rfl⟩, fun a' W hB hold he K hK => (by have h0 : a'.eval (.tmp 80) = _ := (he ⟨11, .data⟩ (by simp) rfl); have h1 : a'.eval (.tmp 81) = _ := (he ⟨12, .data⟩ (by simp) rfl); exact wp_step_run (.pointer (some ⟨fb, fo + k * 5, none⟩)) (by simp only [execOp, h0, h1]; go_simp) (hK _ (Below.refl _ _)))⟩
                · exact .inl ⟨.inr ⟨8, false, _, rfl, ⟨⟨8, .guard⟩, by simp, rfl, rfl⟩, rfl, rfl, by decide, rfl⟩, fun a' W hB hold he K hK => fx_field 46 (.tmp 82) 2 _ _ rfl (he ⟨13, .data⟩ (by simp) rfl) (by kernel_rfl) (hK _ (Below.refl _ _))⟩
                · exact .inl ⟨.inr ⟨8, false, _, rfl, ⟨⟨8, .guard⟩, by simp, rfl, rfl⟩, rfl, rfl, by decide, rfl⟩, fun a' W hB hold he K hK => wp_step_load 3 (.tmp 83) _ rfl _ (he ⟨14, .data⟩ (by simp) rfl) (load_int W _ _ _ (cell_bel E2.out hB)) (hK _ (Below.refl _ _))⟩
                · exact .inl ⟨.inr ⟨8, false, _, rfl, ⟨⟨8, .guard⟩, by simp, rfl, rfl⟩, rfl, rfl, by decide, rfl⟩, fun a' W hB hold he K hK => fx_field 44 (.tmp 12) 2 _ _ rfl (hold 12 (by decide)) (by kernel_rfl) (hK _ (Below.refl _ _))⟩
                · exact .inl ⟨.inr ⟨8, false, _, rfl, ⟨⟨8, .guard⟩, by simp, rfl, rfl⟩, rfl, rfl, by decide, rfl⟩, fun a' W hB hold he K hK => wp_step_load 42 (.tmp 85) _ rfl _ (he ⟨16, .data⟩ (by simp) rfl) (load_fs W _ _ _ _ _ (cell_bel G2.out hB)) (hK _ (Below.refl _ _))⟩
                · exact .inl ⟨.inr ⟨8, false, _, rfl, ⟨⟨8, .guard⟩, by simp, rfl, rfl⟩, rfl, rfl, by decide, rfl⟩, fun a' W hB hold he K hK => fx_move (.tmp 17) _ (.inl rfl) (hold 17 (by decide)) (hK _ (Below.refl _ _))⟩
                · exact .inl ⟨.inr ⟨8, false, _, rfl, ⟨⟨8, .guard⟩, by simp, rfl, rfl⟩, rfl, rfl, by decide, rfl⟩, fun a' W hB hold he K hK => (by have h0 : a'.eval (.tmp 86) = _ := (he ⟨17, .data⟩ (by simp) rfl); have h1 : a'.eval (.tmp 87) = _ := (he ⟨18, .data⟩ (by simp) rfl); exact wp_step_run (.pointer (some ⟨fb, fo + k * 5, none⟩)) (by simp only [execOp, h0, h1]; go_simp) (hK _ (Below.refl _ _)))⟩
                · exact .inl ⟨.inr ⟨8, false, _, rfl, ⟨⟨8, .guard⟩, by simp, rfl, rfl⟩, rfl, rfl, by decide, rfl⟩, fun a' W hB hold he K hK => fx_field 46 (.tmp 88) 1 _ _ rfl (he ⟨19, .data⟩ (by simp) rfl) (by kernel_rfl) (hK _ (Below.refl _ _))⟩
                · exact .inl ⟨.inr ⟨8, false, _, rfl, ⟨⟨8, .guard⟩, by simp, rfl, rfl⟩, rfl, rfl, by decide, rfl⟩, fun a' W hB hold he K hK => wp_step_load 5 (.tmp 89) _ rfl _ (he ⟨20, .data⟩ (by simp) rfl) (load_u8 W _ _ _ (cell_bel E1.out hB)) (hK _ (Below.refl _ _))⟩
                · exact .inl ⟨.inr ⟨8, false, _, rfl, ⟨⟨8, .guard⟩, by simp, rfl, rfl⟩, rfl, rfl, by decide, rfl⟩, fun a' W hB hold he K hK => (by have h0 : a'.eval (.tmp 90) = _ := (he ⟨21, .data⟩ (by simp) rfl); exact wp_step_call 21 #[_] (by simp only [execOp, h0]; simp [go_sem] <;> simp_all [Act.eval]) ((HSB.out W).mono (by rintro e1 w' ⟨rfl, hb⟩; exact ⟨_, rfl, hK _ hb⟩)))⟩
                · exact .inl ⟨.inr ⟨8, false, _, rfl, ⟨⟨8, .guard⟩, by simp, rfl, rfl⟩, rfl, rfl, by decide, rfl⟩, fun a' W hB hold he K hK => fx_bin .add 3 3 (.tmp 84) (.tmp 91) _ _ _ rfl (he ⟨15, .data⟩ (by simp) rfl) (he ⟨22, .data⟩ (by simp) rfl) rfl (HADD.out _) (hK _ (Below.refl _ _))⟩
                · exact .inl ⟨.inr ⟨8, false, _, rfl, ⟨⟨8, .guard⟩, by simp, rfl, rfl⟩, rfl, rfl, by decide, rfl⟩, fun a' W hB hold he K hK => fx_bin .sub 3 3 (.tmp 92) (.const (.int .i64 1)) _ _ _ rfl (he ⟨23, .data⟩ (by simp) rfl) rfl rfl (HSUB.out _) (hK _ (Below.refl _ _))⟩
                · exact .inl ⟨.inr ⟨8, false, _, rfl, ⟨⟨8, .guard⟩, by simp, rfl, rfl⟩, rfl, rfl, by decide, rfl⟩, fun a' W hB hold he K hK => (by have h0 : a'.eval (.tmp 78) = _ := (he ⟨9, .data⟩ (by simp) rfl); have h1 : a'.eval (.tmp 93) = _ := (he ⟨24, .data⟩ (by simp) rfl); exact wp_step_call 20 #[_, _, _] (by simp only [execOp, h0, h1]; simp [go_sem] <;> simp_all [Act.eval]) ((P2.out W (bel_trans HB.out hB)).mono (by rintro e1 w' ⟨rfl, hb⟩; exact ⟨_, rfl, hK _ hb⟩)))⟩
              intro W hB5
              simp only [putAll, List.length_cons, List.length_nil, Nat.reduceAdd, List.drop_succ_cons, List.drop_zero]
              have HB5 := hide hB5
              clear hB5
              go_wp2_with fail
              go_roundw
              case rel => exact ⟨k + 1, by omega, by simp, HH.out.below HB5.out HH.out.lt, bel_trans HB.out HB5.out⟩
              case measure => simp [intOf]; omega
            · obtain rfl : k = N := by omega
              have HPE := hide (HP.out _ HB.out a2 j)
              rw [hpq.out] at HPE
              clear hkN
              cases b with
              | true =>
                go_wp2_with fail
                refine HPE.out.mono ?_
                rintro e w5 ⟨rfl, hb5⟩
                have HB5 := hide (bel_trans HB.out hb5)
                clear hb5
                go_wp2_with fail
                refine (law_alive _).mono ?_
                rintro e w6 ⟨rfl, hB6⟩
                go_wp2_with fail
                go_ret
                exact ⟨rfl, bel_trans HB5.out hB6⟩
              | false =>
                go_wp2_with fail
                refine HPE.out.mono ?_
                rintro e w5 ⟨rfl, hb5⟩
                have HB5 := hide (bel_trans HB.out hb5)
                clear hb5
                go_wp2_with fail
                refine (law_alive _).mono ?_
                rintro e w6 ⟨rfl, hB6⟩
                go_wp2_with fail
                go_ret
                exact ⟨rfl, bel_trans HB5.out hB6⟩
    · clear hr1 hr2 hr3
      have dz : (r3 != 0) = true := bne_iff_ne.2 hz
      clear hz hn0
      go_enter Try.func7, Try.ntmps7
      go_wp2_with fail
      refine HLG.out.mono ?_
      rintro e w1 ⟨rfl, hB1⟩
      have HB1 := hide hB1
      clear hB1
      go_wp2_with fail
      refine (HCK.out _ HB1.out).mono ?_
      rintro e w2 ⟨rfl, hB2⟩
      have HB2 := hide (bel_trans HB1.out hB2)
      clear hB2 HB1
      go_wp2_with fail
      refine (law_alive _).mono ?_
      rintro e w3 ⟨rfl, hB3⟩
      go_wp2_with fail
      go_ret
      exact ⟨rfl, bel_trans HB2.out hB3⟩
end Go.Proofs.Ytkflofjcjolehaa
