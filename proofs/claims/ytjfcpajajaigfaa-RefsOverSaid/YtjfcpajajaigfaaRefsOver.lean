import Derived.Test.YtjfcpajajaigfaaRefsP
/-! The law RefsOver. -/
namespace Go.Proofs.Ytjfcpajajaigfaa
open Go.RowKit Go.Maps Go.Deep
set_option maxHeartbeats 8000000
set_option maxRecDepth 100000
set_option linter.unusedSimpArgs false
set_option linter.unusedVariables false

theorem refs_over_law (w : World) (A : Option Addr) (N c : Nat) (l : List S60) (hl : l.length = N) (_ : N ≤ 9223372036854775807) (hs : SliceOf w A 4 (l.map S60.cells)) (hok : ∀ x ∈ l, x.ok) :
    Calls Try.prog 7 #[.slice A N c] w fun e w' => e = .returned (.bool true) ∧ Below w.heap.size w w' := by
  have HL := hide hl
  have HS := hide hs
  have HO := hide hok
  clear hl hs hok
  by_cases h200 : 200 < N
  · have hd : decide ((200 : Int) < N) = true := decide_eq_true (by omega)
    go_enter Try.func7, Try.ntmps7
    go_wp2_with fail
    refine (refs_works _).mono ?_
    rintro e w4 ⟨rfl, hb⟩
    go_wp2_with fail
    go_ret
    exact ⟨rfl, hb⟩
  have hd : decide ((200 : Int) < N) = false := decide_eq_false (by omega)
  go_enter Try.func7, Try.ntmps7
  go_wp2_with fail
  refine (refs_new w.heap.size _ (Nat.le_refl _)).mono ?_
  rintro e w1 ⟨b, rfl, hr, hb, hbl⟩
  have HR := hide (hr.below ((Below.refl w1.heap.size w1).alloc (Nat.le_refl _) (.map #[] 0)))
  have B1 := hide (below_on hbl ((Below.refl w1.heap.size w1).alloc (Nat.le_refl _) (.map #[] 0)))
  have OV := hide (show OverIs (w1.alloc (.map #[] 0)) w1.heap.size [] from ⟨[], MapIs.made w1 u64Key u64Ok, by simp⟩)
  have HOM := hide (show w.heap.size ≤ w1.heap.size from hbl.size)
  clear hr hbl
  go_wp2_with fail
  rw [run_makeMap]
  obtain ⟨w2, hw2⟩ : ∃ w2, w2 = w1.alloc (.map #[] 0) := ⟨_, rfl⟩
  rw [← hw2] at HR B1 OV ⊢
  obtain ⟨om, hom⟩ : ∃ om, om = w1.heap.size := ⟨_, rfl⟩
  rw [← hom] at OV HOM ⊢
  clear hw2 hom
  go_wp2_with fail
  go_loopw [4, 6] (fun la i wr => ∃ (k : Nat) (L : List Rf), k ≤ N ∧ i = .int .i64 k ∧ la = .int .u64 (L.length : Nat) ∧ L.length ≤ k ∧ Kinds L ∧ RefsIs w.heap.size wr b L ∧ OverIs wr om L ∧ Below w.heap.size w wr) (fun _ i _ => N - (intOf i).toNat)
  case atStart => exact ⟨0, [], Nat.zero_le _, rfl, rfl, Nat.le_refl _, (fun y hy => by cases hy), HR.out, OV.out, B1.out⟩
  case round =>
    clear HR OV B1
    obtain ⟨k, L, hk, rfl, rfl, hLk, hK, hR, hO, hB⟩ := hrel
    by_cases hlt : k < N
    · have hki : (k : Int) < (N : Int) := by omega
      have hdl : decide ((k : Int) < (N : Int)) = true := decide_eq_true hki
      have hkw : IntKind.i64.wrap ((k : Int) + 1) = (k : Int) + 1 := wrap_i64 (by omega) (by omega)
      obtain ⟨y, hy⟩ : ∃ x, l[k]? = some x := ⟨_, List.getElem?_eq_getElem (by rw [HL.out]; exact hlt)⟩
      have hyo := HO.out y (List.mem_of_getElem? hy)
      obtain ⟨cb, off, rfl, hcb, hcells⟩ := HS.out.at_ hB (i := k) (cs := y.cells) (by rw [List.getElem?_map, hy]; rfl)
      have e0 : wr.cell? ⟨cb, off + k * 4, none⟩ = some (.int .i64 y.Do) := hcells 0 _ rfl
      have e1 : wr.cell? ⟨cb, off + k * 4 + 1, none⟩ = some (.int .i64 y.H.Slot) := hcells 1 _ rfl
      have e2 : wr.cell? ⟨cb, off + k * 4 + 2, none⟩ = some (.int .u64 y.H.Gen) := hcells 2 _ rfl
      have e3 : wr.cell? ⟨cb, off + k * 4 + 3, none⟩ = some (.int .u64 y.Ref) := hcells 3 _ rfl
      have BQ := (Below.refl wr.heap.size wr).alloc (Nat.le_refl _) (.cells #[.int .i64 y.Do, .int .i64 y.H.Slot, .int .u64 y.H.Gen, .int .u64 y.Ref] 60)
      have HR := hide (hR.below BQ)
      have OV := hide (hO.below BQ)
      have B1 := hide (below_on hB BQ)
      have HQ := hide (Has.new wr 60 #[.int .i64 y.Do, .int .i64 y.H.Slot, .int .u64 y.H.Gen, .int .u64 y.Ref])
      have HRF := hide (show 0 ≤ y.Ref ∧ y.Ref < 18446744073709551616 by
        have := hyo.2.2
        simp [Lit.wf, IntKind.min, IntKind.max, IntKind.bits, IntKind.signed] at this
        omega)
      have HK := hide hK
      have hu : wr.heap.size ≠ b := by have := hR.lt; omega
      have HU0 := hide (show w.heap.size ≤ wr.heap.size from hB.size)
      have hL200 : L.length ≤ 200 := by omega
      clear hy hyo hcells hR hO hB hcb BQ hK
      go_wp2_with fail
      clear e0 e1 e2 e3
      obtain ⟨W0, hW0⟩ : ∃ W0, W0 = wr.alloc (.cells #[.int .i64 y.Do, .int .i64 y.H.Slot, .int .u64 y.H.Gen, .int .u64 y.Ref] 60) := ⟨_, rfl⟩
      rw [← hW0] at HR OV B1 HQ ⊢
      obtain ⟨u, hu0⟩ : ∃ u, u = wr.heap.size := ⟨_, rfl⟩
      rw [← hu0] at HQ hu HU0 ⊢
      clear hW0 hu0
      refine (refs_owned w.heap.size _ b L HR.out (by omega)).mono ?_
      rintro e W1 ⟨v0, rfl, ⟨hrow, hb2⟩, _⟩
      obtain ⟨nn, hnn⟩ : ∃ nn, nn = nums L 1 L.length := ⟨_, rfl⟩
      rw [← hnn] at hrow
      have hn200 : nn.length ≤ 200 := by rw [hnn]; have := nums_len L 1 L.length; omega
      obtain ⟨Q, hQ⟩ : ∃ Q, Q = nn.length := ⟨_, rfl⟩
      rw [← hQ] at hrow hn200
      have HNN := hide hnn
      have HQQ := hide hQ
      clear hnn hQ
      have HR := hide (HR.out.below hb2)
      have OV := hide (OV.out.below hb2)
      have HQ := hide (HQ.out.below hb2 HQ.out.lt)
      have hWs := B1.out.size
      have B1 := hide (below_on B1.out hb2)
      obtain ⟨A0, c0, rfl⟩ := row_form hrow
      have HROW := hide (owns_mono hrow hWs)
      clear hrow hb2 hWs
      have s0 : W1.cell? ⟨u, 0, none⟩ = some (.int .i64 y.Do) := HQ.out.cell 0
      have s1 : W1.cell? ⟨u, 1, none⟩ = some (.int .i64 y.H.Slot) := HQ.out.cell 1
      have s2 : W1.cell? ⟨u, 2, none⟩ = some (.int .u64 y.H.Gen) := HQ.out.cell 2
      have s3 : W1.cell? ⟨u, 3, none⟩ = some (.int .u64 y.Ref) := HQ.out.cell 3
      obtain ⟨M, hM⟩ : ∃ M, M = L.length := ⟨_, rfl⟩
      rw [← hM]
      have hM2 : M ≤ 200 := by omega
      obtain ⟨d, hdd⟩ : ∃ d, d = y.Do := ⟨_, rfl⟩
      rw [← hdd] at HQ s0 ⊢
      clear hdd
      have hdo : d = 0 ∨ d = 1 ∨ d = 2 ∨ d = 3 ∨ d = 4 ∨ ((d == 0) = false ∧ (d == 1) = false ∧ (d == 2) = false ∧ (d == 3) = false ∧ (d == 4) = false) := by
        by_cases h0 : d = 0
        · exact .inl h0
        by_cases h1 : d = 1
        · exact .inr (.inl h1)
        by_cases h2 : d = 2
        · exact .inr (.inr (.inl h2))
        by_cases h3 : d = 3
        · exact .inr (.inr (.inr (.inl h3)))
        by_cases h4 : d = 4
        · exact .inr (.inr (.inr (.inr (.inl h4))))
        exact .inr (.inr (.inr (.inr (.inr ⟨by simp [h0], by simp [h1], by simp [h2], by simp [h3], by simp [h4]⟩))))
      have HMM := hide hM
      clear hM
      rcases hdo with rfl | rfl | rfl | rfl | rfl | ⟨hdo0, hdo1, hdo2, hdo3, hdo4⟩
      · have CO := refs_own w.heap.size _ b L HR.out (by omega) y.H.Slot y.H.Gen
        rw [← HMM.out] at CO
        have CO := hide CO
        go_wp2_with fail
        refine CO.out.mono ?_
        rintro e W2 ⟨rfl, hr, ht⟩
        clear CO
        have HQ := hide (HQ.out.turned ht (RefsMay.of HQ.out (by decide) hu))
        have OV := hide (OV.out.turned ht (OV.out.may HR.out))
        have HROW := hide (owns_turned HROW.out ht (fun q hq hm => by
          obtain ⟨cc, hcc⟩ := owns_block HROW.out hq
          exact RefsMay.of hcc (by decide) (fun e => by
            obtain ⟨_, vv, hbb, _⟩ := HR.out
            rw [e] at hcc
            exact absurd (hcc.eq hbb).1 (by decide)) hm))
        have HR := hide hr
        have B1 := hide (may_below B1.out ht B1.out.size)
        clear hr ht
        obtain ⟨L2, hL2⟩ : ∃ L2, L2 = L ++ [⟨y.H.Slot, y.H.Gen, 1⟩] := ⟨_, rfl⟩
        have HK2 := hide (show Kinds L2 by rw [hL2]; exact kinds_append HK.out (.inl rfl))
        have OV := hide (show OverIs _ om L2 from OV.out.stay (by rw [hL2]; exact stay_append L _))
        have HD4 := hide (show ∀ (j : Nat) (z : Rf), L2[j]? = some z → (False → z.k ≠ 2) by rw [hL2]; exact fun _ _ _ h => h.elim)
        rw [← hL2] at HR
        obtain ⟨M2, hM2⟩ : ∃ M2, M2 = L2.length := ⟨_, rfl⟩
        have hM3 : M2 = M + 1 := by rw [hM2, hL2]; rw [List.length_append, ← HMM.out]; rfl
        have HLK := hide (show L2.length ≤ k + 1 by have := HMM.out; omega)
        have hM200 : M2 ≤ 201 := by omega
        have HM2 := hide hM2
        have hleq : decide ((M2 : Int) ≤ (M : Int)) = false := decide_eq_false (by omega)
        have hleq2 : ¬ (M2 ≤ M) := by omega
        clear s0 s1 s2 s3
        clear hL2 hM2
        rw [← hM3]
        have HM3 := hide hM3
        clear hM3
        go_wp2_with fail
        go_loopw [15] (fun i wr => ∃ j : Nat, j ≤ M2 ∧ i = .int .u64 ((j + 1 : Nat) : Int) ∧ RefsIs w.heap.size wr b L2 ∧ OverIs wr om L2 ∧ Has wr u 60 #[.int .i64 0, .int .i64 y.H.Slot, .int .u64 y.H.Gen, .int .u64 y.Ref] ∧ Below w.heap.size w wr) (fun i _ => M2 + 1 - (intOf i).toNat)
        case atStart => exact ⟨0, Nat.zero_le _, rfl, HR.out, OV.out, HQ.out, B1.out⟩
        case round =>
          clear HR OV HQ B1
          obtain ⟨j, hj, rfl, hR, hO, hQ, hB⟩ := hrel
          have HR := hide hR
          have OV := hide hO
          have HQ := hide hQ
          have B1 := hide hB
          clear hR hO hQ hB
          obtain ⟨X, hX⟩ : ∃ X : Nat, X = j + 1 := ⟨_, rfl⟩
          rw [← hX]
          have hXw : IntKind.u64.wrap ((X : Int) + 1) = (X : Int) + 1 := wrap_u64 (by omega) (by omega)
          by_cases hjl : j < M2
          · have hdj : decide ((X : Int) ≤ (M2 : Int)) = true := decide_eq_true (by omega)
            have hdx : X ≤ M2 := by omega
            obtain ⟨z, hz⟩ : ∃ z, L2[j]? = some z := ⟨_, List.getElem?_eq_getElem (by rw [← HM2.out]; exact hjl)⟩
            have CO := fun W (h : RefsIs w.heap.size W b L2) => refs_Of w.heap.size W b L2 h (by have := HM2.out; omega) j z hz
            rw [← hX] at CO
            have CO := hide CO
            have hzk := HK2.out z (List.mem_of_getElem? hz)
            have HZ := hide hz
            have HX := hide hX
            have HXO := hide (u64_ok (X := (X : Int)) (by omega) (by omega))
            clear hX
            go_wp2_with fail
            refine (CO.out _ HR.out).mono ?_
            rintro e W3 ⟨rfl, hb3⟩
            have BH := below_on hb3 ((Below.refl W3.heap.size W3).alloc (Nat.le_refl _) (.cells #[.int .i64 z.s, .int .u64 z.g] 58))
            have HR := hide (HR.out.below BH)
            have OV := hide (OV.out.below BH)
            have HQ := hide (HQ.out.below BH HQ.out.lt)
            have B1 := hide (below_on B1.out BH)
            have s0 : (W3.alloc (.cells #[.int .i64 z.s, .int .u64 z.g] 58)).cell? ⟨u, 0, none⟩ = some (.int .i64 0) := HQ.out.cell 0
            obtain ⟨ov, hov, hlk⟩ := OV.out.get HXO.out
            obtain ⟨W4, hW4⟩ : ∃ W4, W4 = W3.alloc (.cells #[.int .i64 z.s, .int .u64 z.g] 58) := ⟨_, rfl⟩
            have HW4 := hide hW4
            rw [← hW4] at HR OV HQ B1
            have hov2 : ov = 0 ∨ (ov = 1 ∧ z.k = 3) := by
              rcases hov with h | ⟨h1, h2⟩
              · exact .inl h
              · exact .inr ⟨h1, h2 j z (by rw [HX.out]) HZ.out⟩
            have hz2 := HD4.out j z HZ.out
            have HZ2 := hide hz2
            generalize hzs : z.k = zk at *
            have HZS := hide hzs
            clear hov hb3 BH hzs hz hz2 hW4
            rcases hzk with rfl | rfl | rfl
            · have hov3 : ov = 0 := by rcases hov2 with h | ⟨_, h⟩; exact h; cases h
              subst hov3
              clear hov2
              go_wp2_with fail
              rw [← HW4.out]
              go_roundw
              case rel => exact ⟨j + 1, by omega, by rw [HX.out]; simp, HR.out, OV.out, HQ.out, B1.out⟩
              case measure => rw [HX.out]; simp [intOf]; omega
            · have hov3 : ov = 0 := by rcases hov2 with h | ⟨_, h⟩; exact h; cases h
              subst hov3
              clear hov2
              go_wp2_with fail
              rw [← HW4.out]
              go_roundw
              case rel => exact ⟨j + 1, by omega, by rw [HX.out]; simp, HR.out, OV.out, HQ.out, B1.out⟩
              case measure => rw [HX.out]; simp [intOf]; omega
            · obtain ⟨W5, hpt, hov5, ht5⟩ := OV.out.put HXO.out (by rw [HX.out]) HZ.out HZS.out
              rw [HW4.out] at hpt
              have HR := hide (HR.out.mapTurned OV.out ht5)
              have HQ := hide (HQ.out.turned ht5 (OV.out.ne HQ.out))
              have B1 := hide (B1.out.trans (ht5.below B1.out.size (fun k hk => by rw [hk]; exact HOM.out)))
              have OV := hide hov5
              clear hov5 ht5
              rcases hov2 with rfl | ⟨rfl, _⟩
              all_goals
                go_wp2_with fail
                go_roundw
                case rel => exact ⟨j + 1, by omega, by rw [HX.out]; simp, HR.out, OV.out, HQ.out, B1.out⟩
                case measure => rw [HX.out]; simp [intOf]; omega
          · have hdj : decide ((X : Int) ≤ (M2 : Int)) = false := decide_eq_false (by omega)
            have hdx : ¬ X ≤ M2 := by omega
            clear hX
            go_wp2_with fail
            go_roundw
            case rel => exact ⟨k + 1, L2, by omega, by simp, by rw [HM2.out], HLK.out, HK2.out, HR.out, OV.out, B1.out⟩
            case measure => simp [intOf]; omega
      · have CO := refs_peek w.heap.size _ b L HR.out (by omega) y.H.Slot y.H.Gen
        rw [← HMM.out] at CO
        have CO := hide CO
        go_wp2_with fail
        refine CO.out.mono ?_
        rintro e W2 ⟨rfl, hr, ht⟩
        clear CO
        have HQ := hide (HQ.out.turned ht (RefsMay.of HQ.out (by decide) hu))
        have OV := hide (OV.out.turned ht (OV.out.may HR.out))
        have HROW := hide (owns_turned HROW.out ht (fun q hq hm => by
          obtain ⟨cc, hcc⟩ := owns_block HROW.out hq
          exact RefsMay.of hcc (by decide) (fun e => by
            obtain ⟨_, vv, hbb, _⟩ := HR.out
            rw [e] at hcc
            exact absurd (hcc.eq hbb).1 (by decide)) hm))
        have HR := hide hr
        have B1 := hide (may_below B1.out ht B1.out.size)
        clear hr ht
        obtain ⟨L2, hL2⟩ : ∃ L2, L2 = L ++ [⟨y.H.Slot, y.H.Gen, 2⟩] := ⟨_, rfl⟩
        have HK2 := hide (show Kinds L2 by rw [hL2]; exact kinds_append HK.out (.inr (.inl rfl)))
        have OV := hide (show OverIs _ om L2 from OV.out.stay (by rw [hL2]; exact stay_append L _))
        have HD4 := hide (show ∀ (j : Nat) (z : Rf), L2[j]? = some z → (False → z.k ≠ 2) by rw [hL2]; exact fun _ _ _ h => h.elim)
        rw [← hL2] at HR
        obtain ⟨M2, hM2⟩ : ∃ M2, M2 = L2.length := ⟨_, rfl⟩
        have hM3 : M2 = M + 1 := by rw [hM2, hL2]; rw [List.length_append, ← HMM.out]; rfl
        have HLK := hide (show L2.length ≤ k + 1 by have := HMM.out; omega)
        have hM200 : M2 ≤ 201 := by omega
        have HM2 := hide hM2
        have hleq : decide ((M2 : Int) ≤ (M : Int)) = false := decide_eq_false (by omega)
        have hleq2 : ¬ (M2 ≤ M) := by omega
        clear s0 s1 s2 s3
        clear hL2 hM2
        rw [← hM3]
        have HM3 := hide hM3
        clear hM3
        go_wp2_with fail
        go_loopw [15] (fun i wr => ∃ j : Nat, j ≤ M2 ∧ i = .int .u64 ((j + 1 : Nat) : Int) ∧ RefsIs w.heap.size wr b L2 ∧ OverIs wr om L2 ∧ Has wr u 60 #[.int .i64 1, .int .i64 y.H.Slot, .int .u64 y.H.Gen, .int .u64 y.Ref] ∧ Below w.heap.size w wr) (fun i _ => M2 + 1 - (intOf i).toNat)
        case atStart => exact ⟨0, Nat.zero_le _, rfl, HR.out, OV.out, HQ.out, B1.out⟩
        case round =>
          clear HR OV HQ B1
          obtain ⟨j, hj, rfl, hR, hO, hQ, hB⟩ := hrel
          have HR := hide hR
          have OV := hide hO
          have HQ := hide hQ
          have B1 := hide hB
          clear hR hO hQ hB
          obtain ⟨X, hX⟩ : ∃ X : Nat, X = j + 1 := ⟨_, rfl⟩
          rw [← hX]
          have hXw : IntKind.u64.wrap ((X : Int) + 1) = (X : Int) + 1 := wrap_u64 (by omega) (by omega)
          by_cases hjl : j < M2
          · have hdj : decide ((X : Int) ≤ (M2 : Int)) = true := decide_eq_true (by omega)
            have hdx : X ≤ M2 := by omega
            obtain ⟨z, hz⟩ : ∃ z, L2[j]? = some z := ⟨_, List.getElem?_eq_getElem (by rw [← HM2.out]; exact hjl)⟩
            have CO := fun W (h : RefsIs w.heap.size W b L2) => refs_Of w.heap.size W b L2 h (by have := HM2.out; omega) j z hz
            rw [← hX] at CO
            have CO := hide CO
            have hzk := HK2.out z (List.mem_of_getElem? hz)
            have HZ := hide hz
            have HX := hide hX
            have HXO := hide (u64_ok (X := (X : Int)) (by omega) (by omega))
            clear hX
            go_wp2_with fail
            refine (CO.out _ HR.out).mono ?_
            rintro e W3 ⟨rfl, hb3⟩
            have BH := below_on hb3 ((Below.refl W3.heap.size W3).alloc (Nat.le_refl _) (.cells #[.int .i64 z.s, .int .u64 z.g] 58))
            have HR := hide (HR.out.below BH)
            have OV := hide (OV.out.below BH)
            have HQ := hide (HQ.out.below BH HQ.out.lt)
            have B1 := hide (below_on B1.out BH)
            have s0 : (W3.alloc (.cells #[.int .i64 z.s, .int .u64 z.g] 58)).cell? ⟨u, 0, none⟩ = some (.int .i64 1) := HQ.out.cell 0
            obtain ⟨ov, hov, hlk⟩ := OV.out.get HXO.out
            obtain ⟨W4, hW4⟩ : ∃ W4, W4 = W3.alloc (.cells #[.int .i64 z.s, .int .u64 z.g] 58) := ⟨_, rfl⟩
            have HW4 := hide hW4
            rw [← hW4] at HR OV HQ B1
            have hov2 : ov = 0 ∨ (ov = 1 ∧ z.k = 3) := by
              rcases hov with h | ⟨h1, h2⟩
              · exact .inl h
              · exact .inr ⟨h1, h2 j z (by rw [HX.out]) HZ.out⟩
            have hz2 := HD4.out j z HZ.out
            have HZ2 := hide hz2
            generalize hzs : z.k = zk at *
            have HZS := hide hzs
            clear hov hb3 BH hzs hz hz2 hW4
            rcases hzk with rfl | rfl | rfl
            · have hov3 : ov = 0 := by rcases hov2 with h | ⟨_, h⟩; exact h; cases h
              subst hov3
              clear hov2
              go_wp2_with fail
              rw [← HW4.out]
              go_roundw
              case rel => exact ⟨j + 1, by omega, by rw [HX.out]; simp, HR.out, OV.out, HQ.out, B1.out⟩
              case measure => rw [HX.out]; simp [intOf]; omega
            · have hov3 : ov = 0 := by rcases hov2 with h | ⟨_, h⟩; exact h; cases h
              subst hov3
              clear hov2
              go_wp2_with fail
              rw [← HW4.out]
              go_roundw
              case rel => exact ⟨j + 1, by omega, by rw [HX.out]; simp, HR.out, OV.out, HQ.out, B1.out⟩
              case measure => rw [HX.out]; simp [intOf]; omega
            · obtain ⟨W5, hpt, hov5, ht5⟩ := OV.out.put HXO.out (by rw [HX.out]) HZ.out HZS.out
              rw [HW4.out] at hpt
              have HR := hide (HR.out.mapTurned OV.out ht5)
              have HQ := hide (HQ.out.turned ht5 (OV.out.ne HQ.out))
              have B1 := hide (B1.out.trans (ht5.below B1.out.size (fun k hk => by rw [hk]; exact HOM.out)))
              have OV := hide hov5
              clear hov5 ht5
              rcases hov2 with rfl | ⟨rfl, _⟩
              all_goals
                go_wp2_with fail
                go_roundw
                case rel => exact ⟨j + 1, by omega, by rw [HX.out]; simp, HR.out, OV.out, HQ.out, B1.out⟩
                case measure => rw [HX.out]; simp [intOf]; omega
          · have hdj : decide ((X : Int) ≤ (M2 : Int)) = false := decide_eq_false (by omega)
            have hdx : ¬ X ≤ M2 := by omega
            clear hX
            go_wp2_with fail
            go_roundw
            case rel => exact ⟨k + 1, L2, by omega, by simp, by rw [HM2.out], HLK.out, HK2.out, HR.out, OV.out, B1.out⟩
            case measure => simp [intOf]; omega
      · go_wp2_with fail
        refine (refs_lend w.heap.size _ b L HR.out (by omega) y.Ref HRF.out.1 HRF.out.2).mono ?_
        rintro e W2 ⟨rfl, hr, ht⟩
        have HQ := hide (HQ.out.turned ht (RefsMay.of HQ.out (by decide) hu))
        have OV := hide (OV.out.turned ht (OV.out.may HR.out))
        have HROW := hide (owns_turned HROW.out ht (fun q hq hm => by
          obtain ⟨cc, hcc⟩ := owns_block HROW.out hq
          exact RefsMay.of hcc (by decide) (fun e => by
            obtain ⟨_, vv, hbb, _⟩ := HR.out
            rw [e] at hcc
            exact absurd (hcc.eq hbb).1 (by decide)) hm))
        have HR := hide hr
        have B1 := hide (may_below B1.out ht B1.out.size)
        clear hr ht
        obtain ⟨L2, hL2⟩ : ∃ L2, L2 = (rLend L y.Ref).1 := ⟨_, rfl⟩
        have HK2 := hide (show Kinds L2 by rw [hL2]; exact (lend_facts HK.out y.Ref).2.1)
        have OV := hide (show OverIs _ om L2 from OV.out.stay (by rw [hL2]; exact (lend_facts HK.out y.Ref).2.2))
        have HD4 := hide (show ∀ (j : Nat) (z : Rf), L2[j]? = some z → (False → z.k ≠ 2) by rw [hL2]; exact fun _ _ _ h => h.elim)
        rw [← hL2] at HR
        obtain ⟨M2, hM2⟩ : ∃ M2, M2 = L2.length := ⟨_, rfl⟩
        have hM3 : M2 = M := by rw [hM2, hL2]; rw [(lend_facts HK.out y.Ref).1, HMM.out]
        have HLK := hide (show L2.length ≤ k + 1 by have := HMM.out; omega)
        have hM200 : M2 ≤ 201 := by omega
        have HM2 := hide hM2
        clear s0 s1 s2 s3
        clear hL2 hM2
        rw [← hM3]
        have HM3 := hide hM3
        clear hM3
        go_wp2_with fail
        go_loopw [15] (fun i wr => ∃ j : Nat, j ≤ M2 ∧ i = .int .u64 ((j + 1 : Nat) : Int) ∧ RefsIs w.heap.size wr b L2 ∧ OverIs wr om L2 ∧ Has wr u 60 #[.int .i64 2, .int .i64 y.H.Slot, .int .u64 y.H.Gen, .int .u64 y.Ref] ∧ Below w.heap.size w wr) (fun i _ => M2 + 1 - (intOf i).toNat)
        case atStart => exact ⟨0, Nat.zero_le _, rfl, HR.out, OV.out, HQ.out, B1.out⟩
        case round =>
          clear HR OV HQ B1
          obtain ⟨j, hj, rfl, hR, hO, hQ, hB⟩ := hrel
          have HR := hide hR
          have OV := hide hO
          have HQ := hide hQ
          have B1 := hide hB
          clear hR hO hQ hB
          obtain ⟨X, hX⟩ : ∃ X : Nat, X = j + 1 := ⟨_, rfl⟩
          rw [← hX]
          have hXw : IntKind.u64.wrap ((X : Int) + 1) = (X : Int) + 1 := wrap_u64 (by omega) (by omega)
          by_cases hjl : j < M2
          · have hdj : decide ((X : Int) ≤ (M2 : Int)) = true := decide_eq_true (by omega)
            have hdx : X ≤ M2 := by omega
            obtain ⟨z, hz⟩ : ∃ z, L2[j]? = some z := ⟨_, List.getElem?_eq_getElem (by rw [← HM2.out]; exact hjl)⟩
            have CO := fun W (h : RefsIs w.heap.size W b L2) => refs_Of w.heap.size W b L2 h (by have := HM2.out; omega) j z hz
            rw [← hX] at CO
            have CO := hide CO
            have hzk := HK2.out z (List.mem_of_getElem? hz)
            have HZ := hide hz
            have HX := hide hX
            have HXO := hide (u64_ok (X := (X : Int)) (by omega) (by omega))
            clear hX
            go_wp2_with fail
            refine (CO.out _ HR.out).mono ?_
            rintro e W3 ⟨rfl, hb3⟩
            have BH := below_on hb3 ((Below.refl W3.heap.size W3).alloc (Nat.le_refl _) (.cells #[.int .i64 z.s, .int .u64 z.g] 58))
            have HR := hide (HR.out.below BH)
            have OV := hide (OV.out.below BH)
            have HQ := hide (HQ.out.below BH HQ.out.lt)
            have B1 := hide (below_on B1.out BH)
            have s0 : (W3.alloc (.cells #[.int .i64 z.s, .int .u64 z.g] 58)).cell? ⟨u, 0, none⟩ = some (.int .i64 2) := HQ.out.cell 0
            obtain ⟨ov, hov, hlk⟩ := OV.out.get HXO.out
            obtain ⟨W4, hW4⟩ : ∃ W4, W4 = W3.alloc (.cells #[.int .i64 z.s, .int .u64 z.g] 58) := ⟨_, rfl⟩
            have HW4 := hide hW4
            rw [← hW4] at HR OV HQ B1
            have hov2 : ov = 0 ∨ (ov = 1 ∧ z.k = 3) := by
              rcases hov with h | ⟨h1, h2⟩
              · exact .inl h
              · exact .inr ⟨h1, h2 j z (by rw [HX.out]) HZ.out⟩
            have hz2 := HD4.out j z HZ.out
            have HZ2 := hide hz2
            generalize hzs : z.k = zk at *
            have HZS := hide hzs
            clear hov hb3 BH hzs hz hz2 hW4
            rcases hzk with rfl | rfl | rfl
            · have hov3 : ov = 0 := by rcases hov2 with h | ⟨_, h⟩; exact h; cases h
              subst hov3
              clear hov2
              go_wp2_with fail
              rw [← HW4.out]
              go_roundw
              case rel => exact ⟨j + 1, by omega, by rw [HX.out]; simp, HR.out, OV.out, HQ.out, B1.out⟩
              case measure => rw [HX.out]; simp [intOf]; omega
            · have hov3 : ov = 0 := by rcases hov2 with h | ⟨_, h⟩; exact h; cases h
              subst hov3
              clear hov2
              go_wp2_with fail
              rw [← HW4.out]
              go_roundw
              case rel => exact ⟨j + 1, by omega, by rw [HX.out]; simp, HR.out, OV.out, HQ.out, B1.out⟩
              case measure => rw [HX.out]; simp [intOf]; omega
            · obtain ⟨W5, hpt, hov5, ht5⟩ := OV.out.put HXO.out (by rw [HX.out]) HZ.out HZS.out
              rw [HW4.out] at hpt
              have HR := hide (HR.out.mapTurned OV.out ht5)
              have HQ := hide (HQ.out.turned ht5 (OV.out.ne HQ.out))
              have B1 := hide (B1.out.trans (ht5.below B1.out.size (fun k hk => by rw [hk]; exact HOM.out)))
              have OV := hide hov5
              clear hov5 ht5
              rcases hov2 with rfl | ⟨rfl, _⟩
              all_goals
                go_wp2_with fail
                go_roundw
                case rel => exact ⟨j + 1, by omega, by rw [HX.out]; simp, HR.out, OV.out, HQ.out, B1.out⟩
                case measure => rw [HX.out]; simp [intOf]; omega
          · have hdj : decide ((X : Int) ≤ (M2 : Int)) = false := decide_eq_false (by omega)
            have hdx : ¬ X ≤ M2 := by omega
            clear hX
            go_wp2_with fail
            go_roundw
            case rel => exact ⟨k + 1, L2, by omega, by simp, by rw [HM2.out], HLK.out, HK2.out, HR.out, OV.out, B1.out⟩
            case measure => simp [intOf]; omega
      · go_wp2_with fail
        have CO := refs_over w.heap.size _ b L HR.out (by omega) y.Ref HRF.out.1 HRF.out.2
        by_cases hc : (rOver L y.Ref).2 = 0
        · rw [hc] at CO
          have HC := hide hc
          refine CO.mono ?_
          rintro e W2 ⟨rfl, hr, ht⟩
          have HQ := hide (HQ.out.turned ht (RefsMay.of HQ.out (by decide) hu))
          have OV := hide (OV.out.turned ht (OV.out.may HR.out))
          have HROW := hide (owns_turned HROW.out ht (fun q hq hm => by
            obtain ⟨cc, hcc⟩ := owns_block HROW.out hq
            exact RefsMay.of hcc (by decide) (fun e => by
              obtain ⟨_, vv, hbb, _⟩ := HR.out
              rw [e] at hcc
              exact absurd (hcc.eq hbb).1 (by decide)) hm))
          have HR := hide hr
          have B1 := hide (may_below B1.out ht B1.out.size)
          clear hr ht
          obtain ⟨L2, hL2⟩ : ∃ L2, L2 = (rOver L y.Ref).1 := ⟨_, rfl⟩
          have HK2 := hide (show Kinds L2 by rw [hL2]; exact (over_facts HK.out y.Ref).2.1)
          have OV := hide (show OverIs _ om L2 from OV.out.stay (by rw [hL2]; exact (over_facts HK.out y.Ref).2.2.1))
          have HD4 := hide (show ∀ (j : Nat) (z : Rf), L2[j]? = some z → (False → z.k ≠ 2) by rw [hL2]; exact fun _ _ _ h => h.elim)
          rw [← hL2] at HR
          obtain ⟨M2, hM2⟩ : ∃ M2, M2 = L2.length := ⟨_, rfl⟩
          have hM3 : M2 = M := by rw [hM2, hL2]; rw [(over_facts HK.out y.Ref).1, HMM.out]
          have HLK := hide (show L2.length ≤ k + 1 by have := HMM.out; omega)
          have hM200 : M2 ≤ 201 := by omega
          have HM2 := hide hM2
          obtain ⟨jj, zz, hjj, hzz, hzk3⟩ := (over_facts HK.out y.Ref).2.2.2 HC.out
          rw [← hL2] at hzz
          obtain ⟨W5, hpt, hov5, ht5⟩ := OV.out.put (u64_ok HRF.out.1 HRF.out.2) hjj hzz hzk3
          have HR := hide (HR.out.mapTurned OV.out ht5)
          have s3 : W2.cell? ⟨u, 3, none⟩ = some (.int .u64 y.Ref) := HQ.out.cell 3
          have HQ := hide (HQ.out.turned ht5 (OV.out.ne HQ.out))
          have B1 := hide (B1.out.trans (ht5.below B1.out.size (fun k hk => by rw [hk]; exact HOM.out)))
          have OV := hide hov5
          clear hov5 ht5 hL2 hM2 hjj hzz hzk3 hc CO s0 s1 s2
          rw [← hM3]
          have HM3 := hide hM3
          clear hM3
          go_wp2_with fail
          go_loopw [15] (fun i wr => ∃ j : Nat, j ≤ M2 ∧ i = .int .u64 ((j + 1 : Nat) : Int) ∧ RefsIs w.heap.size wr b L2 ∧ OverIs wr om L2 ∧ Has wr u 60 #[.int .i64 3, .int .i64 y.H.Slot, .int .u64 y.H.Gen, .int .u64 y.Ref] ∧ Below w.heap.size w wr) (fun i _ => M2 + 1 - (intOf i).toNat)
          case atStart => exact ⟨0, Nat.zero_le _, rfl, HR.out, OV.out, HQ.out, B1.out⟩
          case round =>
            clear HR OV HQ B1
            obtain ⟨j, hj, rfl, hR, hO, hQ, hB⟩ := hrel
            have HR := hide hR
            have OV := hide hO
            have HQ := hide hQ
            have B1 := hide hB
            clear hR hO hQ hB
            obtain ⟨X, hX⟩ : ∃ X : Nat, X = j + 1 := ⟨_, rfl⟩
            rw [← hX]
            have hXw : IntKind.u64.wrap ((X : Int) + 1) = (X : Int) + 1 := wrap_u64 (by omega) (by omega)
            by_cases hjl : j < M2
            · have hdj : decide ((X : Int) ≤ (M2 : Int)) = true := decide_eq_true (by omega)
              have hdx : X ≤ M2 := by omega
              obtain ⟨z, hz⟩ : ∃ z, L2[j]? = some z := ⟨_, List.getElem?_eq_getElem (by rw [← HM2.out]; exact hjl)⟩
              have CO := fun W (h : RefsIs w.heap.size W b L2) => refs_Of w.heap.size W b L2 h (by have := HM2.out; omega) j z hz
              rw [← hX] at CO
              have CO := hide CO
              have hzk := HK2.out z (List.mem_of_getElem? hz)
              have HZ := hide hz
              have HX := hide hX
              have HXO := hide (u64_ok (X := (X : Int)) (by omega) (by omega))
              clear hX
              go_wp2_with fail
              refine (CO.out _ HR.out).mono ?_
              rintro e W3 ⟨rfl, hb3⟩
              have BH := below_on hb3 ((Below.refl W3.heap.size W3).alloc (Nat.le_refl _) (.cells #[.int .i64 z.s, .int .u64 z.g] 58))
              have HR := hide (HR.out.below BH)
              have OV := hide (OV.out.below BH)
              have HQ := hide (HQ.out.below BH HQ.out.lt)
              have B1 := hide (below_on B1.out BH)
              have s0 : (W3.alloc (.cells #[.int .i64 z.s, .int .u64 z.g] 58)).cell? ⟨u, 0, none⟩ = some (.int .i64 3) := HQ.out.cell 0
              obtain ⟨ov, hov, hlk⟩ := OV.out.get HXO.out
              obtain ⟨W4, hW4⟩ : ∃ W4, W4 = W3.alloc (.cells #[.int .i64 z.s, .int .u64 z.g] 58) := ⟨_, rfl⟩
              have HW4 := hide hW4
              rw [← hW4] at HR OV HQ B1
              have hov2 : ov = 0 ∨ (ov = 1 ∧ z.k = 3) := by
                rcases hov with h | ⟨h1, h2⟩
                · exact .inl h
                · exact .inr ⟨h1, h2 j z (by rw [HX.out]) HZ.out⟩
              have hz2 := HD4.out j z HZ.out
              have HZ2 := hide hz2
              generalize hzs : z.k = zk at *
              have HZS := hide hzs
              clear hov hb3 BH hzs hz hz2 hW4
              rcases hzk with rfl | rfl | rfl
              · have hov3 : ov = 0 := by rcases hov2 with h | ⟨_, h⟩; exact h; cases h
                subst hov3
                clear hov2
                go_wp2_with fail
                rw [← HW4.out]
                go_roundw
                case rel => exact ⟨j + 1, by omega, by rw [HX.out]; simp, HR.out, OV.out, HQ.out, B1.out⟩
                case measure => rw [HX.out]; simp [intOf]; omega
              · have hov3 : ov = 0 := by rcases hov2 with h | ⟨_, h⟩; exact h; cases h
                subst hov3
                clear hov2
                go_wp2_with fail
                rw [← HW4.out]
                go_roundw
                case rel => exact ⟨j + 1, by omega, by rw [HX.out]; simp, HR.out, OV.out, HQ.out, B1.out⟩
                case measure => rw [HX.out]; simp [intOf]; omega
              · obtain ⟨W5, hpt, hov5, ht5⟩ := OV.out.put HXO.out (by rw [HX.out]) HZ.out HZS.out
                rw [HW4.out] at hpt
                have HR := hide (HR.out.mapTurned OV.out ht5)
                have HQ := hide (HQ.out.turned ht5 (OV.out.ne HQ.out))
                have B1 := hide (B1.out.trans (ht5.below B1.out.size (fun k hk => by rw [hk]; exact HOM.out)))
                have OV := hide hov5
                clear hov5 ht5
                rcases hov2 with rfl | ⟨rfl, _⟩
                all_goals
                  go_wp2_with fail
                  go_roundw
                  case rel => exact ⟨j + 1, by omega, by rw [HX.out]; simp, HR.out, OV.out, HQ.out, B1.out⟩
                  case measure => rw [HX.out]; simp [intOf]; omega
            · have hdj : decide ((X : Int) ≤ (M2 : Int)) = false := decide_eq_false (by omega)
              have hdx : ¬ X ≤ M2 := by omega
              clear hX
              go_wp2_with fail
              go_roundw
              case rel => exact ⟨k + 1, L2, by omega, by simp, by rw [HM2.out], HLK.out, HK2.out, HR.out, OV.out, B1.out⟩
              case measure => simp [intOf]; omega
        · have hc2 : ((rOver L y.Ref).2 == 0) = false := beq_eq_false_iff_ne.2 hc
          have HC := hide hc
          generalize hcc : (rOver L y.Ref).2 = cc at CO hc2
          refine CO.mono ?_
          rintro e W2 ⟨rfl, hr, ht⟩
          have HQ := hide (HQ.out.turned ht (RefsMay.of HQ.out (by decide) hu))
          have OV := hide (OV.out.turned ht (OV.out.may HR.out))
          have HROW := hide (owns_turned HROW.out ht (fun q hq hm => by
            obtain ⟨cc, hcc⟩ := owns_block HROW.out hq
            exact RefsMay.of hcc (by decide) (fun e => by
              obtain ⟨_, vv, hbb, _⟩ := HR.out
              rw [e] at hcc
              exact absurd (hcc.eq hbb).1 (by decide)) hm))
          have HR := hide hr
          have B1 := hide (may_below B1.out ht B1.out.size)
          clear hr ht
          obtain ⟨L2, hL2⟩ : ∃ L2, L2 = (rOver L y.Ref).1 := ⟨_, rfl⟩
          have HK2 := hide (show Kinds L2 by rw [hL2]; exact (over_facts HK.out y.Ref).2.1)
          have OV := hide (show OverIs _ om L2 from OV.out.stay (by rw [hL2]; exact (over_facts HK.out y.Ref).2.2.1))
          have HD4 := hide (show ∀ (j : Nat) (z : Rf), L2[j]? = some z → (False → z.k ≠ 2) by rw [hL2]; exact fun _ _ _ h => h.elim)
          rw [← hL2] at HR
          obtain ⟨M2, hM2⟩ : ∃ M2, M2 = L2.length := ⟨_, rfl⟩
          have hM3 : M2 = M := by rw [hM2, hL2]; rw [(over_facts HK.out y.Ref).1, HMM.out]
          have HLK := hide (show L2.length ≤ k + 1 by have := HMM.out; omega)
          have hM200 : M2 ≤ 201 := by omega
          have HM2 := hide hM2
          clear s0 s1 s2 s3
          clear hL2 hM2 hc hcc CO
          rw [← hM3]
          have HM3 := hide hM3
          clear hM3
          go_wp2_with fail
          go_loopw [15] (fun i wr => ∃ j : Nat, j ≤ M2 ∧ i = .int .u64 ((j + 1 : Nat) : Int) ∧ RefsIs w.heap.size wr b L2 ∧ OverIs wr om L2 ∧ Has wr u 60 #[.int .i64 3, .int .i64 y.H.Slot, .int .u64 y.H.Gen, .int .u64 y.Ref] ∧ Below w.heap.size w wr) (fun i _ => M2 + 1 - (intOf i).toNat)
          case atStart => exact ⟨0, Nat.zero_le _, rfl, HR.out, OV.out, HQ.out, B1.out⟩
          case round =>
            clear HR OV HQ B1
            obtain ⟨j, hj, rfl, hR, hO, hQ, hB⟩ := hrel
            have HR := hide hR
            have OV := hide hO
            have HQ := hide hQ
            have B1 := hide hB
            clear hR hO hQ hB
            obtain ⟨X, hX⟩ : ∃ X : Nat, X = j + 1 := ⟨_, rfl⟩
            rw [← hX]
            have hXw : IntKind.u64.wrap ((X : Int) + 1) = (X : Int) + 1 := wrap_u64 (by omega) (by omega)
            by_cases hjl : j < M2
            · have hdj : decide ((X : Int) ≤ (M2 : Int)) = true := decide_eq_true (by omega)
              have hdx : X ≤ M2 := by omega
              obtain ⟨z, hz⟩ : ∃ z, L2[j]? = some z := ⟨_, List.getElem?_eq_getElem (by rw [← HM2.out]; exact hjl)⟩
              have CO := fun W (h : RefsIs w.heap.size W b L2) => refs_Of w.heap.size W b L2 h (by have := HM2.out; omega) j z hz
              rw [← hX] at CO
              have CO := hide CO
              have hzk := HK2.out z (List.mem_of_getElem? hz)
              have HZ := hide hz
              have HX := hide hX
              have HXO := hide (u64_ok (X := (X : Int)) (by omega) (by omega))
              clear hX
              go_wp2_with fail
              refine (CO.out _ HR.out).mono ?_
              rintro e W3 ⟨rfl, hb3⟩
              have BH := below_on hb3 ((Below.refl W3.heap.size W3).alloc (Nat.le_refl _) (.cells #[.int .i64 z.s, .int .u64 z.g] 58))
              have HR := hide (HR.out.below BH)
              have OV := hide (OV.out.below BH)
              have HQ := hide (HQ.out.below BH HQ.out.lt)
              have B1 := hide (below_on B1.out BH)
              have s0 : (W3.alloc (.cells #[.int .i64 z.s, .int .u64 z.g] 58)).cell? ⟨u, 0, none⟩ = some (.int .i64 3) := HQ.out.cell 0
              obtain ⟨ov, hov, hlk⟩ := OV.out.get HXO.out
              obtain ⟨W4, hW4⟩ : ∃ W4, W4 = W3.alloc (.cells #[.int .i64 z.s, .int .u64 z.g] 58) := ⟨_, rfl⟩
              have HW4 := hide hW4
              rw [← hW4] at HR OV HQ B1
              have hov2 : ov = 0 ∨ (ov = 1 ∧ z.k = 3) := by
                rcases hov with h | ⟨h1, h2⟩
                · exact .inl h
                · exact .inr ⟨h1, h2 j z (by rw [HX.out]) HZ.out⟩
              have hz2 := HD4.out j z HZ.out
              have HZ2 := hide hz2
              generalize hzs : z.k = zk at *
              have HZS := hide hzs
              clear hov hb3 BH hzs hz hz2 hW4
              rcases hzk with rfl | rfl | rfl
              · have hov3 : ov = 0 := by rcases hov2 with h | ⟨_, h⟩; exact h; cases h
                subst hov3
                clear hov2
                go_wp2_with fail
                rw [← HW4.out]
                go_roundw
                case rel => exact ⟨j + 1, by omega, by rw [HX.out]; simp, HR.out, OV.out, HQ.out, B1.out⟩
                case measure => rw [HX.out]; simp [intOf]; omega
              · have hov3 : ov = 0 := by rcases hov2 with h | ⟨_, h⟩; exact h; cases h
                subst hov3
                clear hov2
                go_wp2_with fail
                rw [← HW4.out]
                go_roundw
                case rel => exact ⟨j + 1, by omega, by rw [HX.out]; simp, HR.out, OV.out, HQ.out, B1.out⟩
                case measure => rw [HX.out]; simp [intOf]; omega
              · obtain ⟨W5, hpt, hov5, ht5⟩ := OV.out.put HXO.out (by rw [HX.out]) HZ.out HZS.out
                rw [HW4.out] at hpt
                have HR := hide (HR.out.mapTurned OV.out ht5)
                have HQ := hide (HQ.out.turned ht5 (OV.out.ne HQ.out))
                have B1 := hide (B1.out.trans (ht5.below B1.out.size (fun k hk => by rw [hk]; exact HOM.out)))
                have OV := hide hov5
                clear hov5 ht5
                rcases hov2 with rfl | ⟨rfl, _⟩
                all_goals
                  go_wp2_with fail
                  go_roundw
                  case rel => exact ⟨j + 1, by omega, by rw [HX.out]; simp, HR.out, OV.out, HQ.out, B1.out⟩
                  case measure => rw [HX.out]; simp [intOf]; omega
            · have hdj : decide ((X : Int) ≤ (M2 : Int)) = false := decide_eq_false (by omega)
              have hdx : ¬ X ≤ M2 := by omega
              clear hX
              go_wp2_with fail
              go_roundw
              case rel => exact ⟨k + 1, L2, by omega, by simp, by rw [HM2.out], HLK.out, HK2.out, HR.out, OV.out, B1.out⟩
              case measure => simp [intOf]; omega
      · go_wp2_with fail
        refine (refs_endlent w.heap.size _ b L HR.out (by omega)).mono ?_
        rintro e W2 ⟨rfl, hr, ht⟩
        have HQ := hide (HQ.out.turned ht (RefsMay.of HQ.out (by decide) hu))
        have OV := hide (OV.out.turned ht (OV.out.may HR.out))
        have HROW := hide (owns_turned HROW.out ht (fun q hq hm => by
          obtain ⟨cc, hcc⟩ := owns_block HROW.out hq
          exact RefsMay.of hcc (by decide) (fun e => by
            obtain ⟨_, vv, hbb, _⟩ := HR.out
            rw [e] at hcc
            exact absurd (hcc.eq hbb).1 (by decide)) hm))
        have HR := hide hr
        have B1 := hide (may_below B1.out ht B1.out.size)
        clear hr ht
        obtain ⟨L2, hL2⟩ : ∃ L2, L2 = rEnd L := ⟨_, rfl⟩
        have HK2 := hide (show Kinds L2 by rw [hL2]; exact (end_facts HK.out).2.1)
        have OV := hide (show OverIs _ om L2 from OV.out.stay (by rw [hL2]; exact (end_facts HK.out).2.2.1))
        have HD4 := hide (show ∀ (j : Nat) (z : Rf), L2[j]? = some z → (True → z.k ≠ 2) by rw [hL2]; exact fun j z hj _ => (end_facts HK.out).2.2.2 j z hj)
        rw [← hL2] at HR
        obtain ⟨M2, hM2⟩ : ∃ M2, M2 = L2.length := ⟨_, rfl⟩
        have hM3 : M2 = M := by rw [hM2, hL2]; rw [(end_facts HK.out).1, HMM.out]
        have HLK := hide (show L2.length ≤ k + 1 by have := HMM.out; omega)
        have hM200 : M2 ≤ 201 := by omega
        have HM2 := hide hM2
        clear s0 s1 s2 s3
        have hnum : nums L2 1 L2.length = nn := by rw [hL2, (end_facts HK.out).1, end_nums, HNN.out]
        have CW := refs_owned w.heap.size W2 b L2 HR.out (by omega)
        rw [hnum, ← HQQ.out] at CW
        have CW := hide CW
        go_wp2_with fail
        refine CW.out.mono ?_
        rintro e W6 ⟨v6, rfl, ⟨hrow6, hb6⟩, _⟩
        obtain ⟨A6, c6, rfl⟩ := row_form hrow6
        have HROW6 := hide hrow6
        have HROW := hide (owns_below HROW.out hb6)
        have HR := hide (HR.out.below hb6)
        have OV := hide (OV.out.below hb6)
        have HQ := hide (HQ.out.below hb6 HQ.out.lt)
        have B1 := hide (below_on B1.out hb6)
        clear hrow6 hb6 hL2 hM2 hnum CW
        rw [← hM3]
        have HM3 := hide hM3
        clear hM3
        go_wp2_with fail
        go_loopw [14] (fun i wr => ∃ j : Nat, j ≤ Q ∧ i = .int .i64 j ∧ RefsIs w.heap.size wr b L2 ∧ OverIs wr om L2 ∧ Has wr u 60 #[.int .i64 4, .int .i64 y.H.Slot, .int .u64 y.H.Gen, .int .u64 y.Ref] ∧ Below w.heap.size w wr ∧ wr.ownsRow w.heap.size 50 1 (.slice A0 Q c0) Q (numCells nn) ∧ wr.ownsRow W2.heap.size 50 1 (.slice A6 Q c6) Q (numCells nn)) (fun i _ => Q - (intOf i).toNat)
        case atStart => exact ⟨0, Nat.zero_le _, rfl, HR.out, OV.out, HQ.out, B1.out, HROW.out, HROW6.out⟩
        case round =>
          clear HR OV HQ B1 HROW HROW6
          obtain ⟨j, hj, rfl, hR, hO, hQ, hB, hr0, hr6⟩ := hrel
          have HR := hide hR
          have OV := hide hO
          have HQ := hide hQ
          have B1 := hide hB
          have HROW := hide hr0
          have HROW6 := hide hr6
          clear hR hO hQ hB hr0 hr6
          by_cases hjl : j < Q
          · have hji : (j : Int) < (Q : Int) := by omega
            have hjw : IntKind.i64.wrap ((j : Int) + 1) = (j : Int) + 1 := wrap_i64 (by omega) (by omega)
            obtain ⟨x, hx⟩ : ∃ x, nn[j]? = some x := ⟨_, List.getElem?_eq_getElem (by rw [← HQQ.out]; exact hjl)⟩
            have hxc : (numCells nn)[j]? = some (.int .u64 (x : Int)) := by unfold numCells; rw [List.getElem?_map, hx]; rfl
            obtain ⟨g7, cap7, h7⟩ := owns_some HROW.out (by omega)
            obtain ⟨g8, cap8, h8⟩ := owns_some HROW6.out (by omega)
            cases h7
            cases h8
            have q1 := (owns_cell HROW.out hxc).1
            have q2 := (owns_cell HROW6.out hxc).1
            clear hx hxc
            go_wp2_with fail
            go_region
            all_goals
              go_wp2_with fail
              exact ⟨⟨j + 1, by omega, by simp, HR.out.below (Below.refl _ _).drew, OV.out.below (Below.refl _ _).drew, HQ.out, B1.out.drew, owns_below HROW.out (Below.refl _ _).drew, owns_below HROW6.out (Below.refl _ _).drew⟩, by simp [intOf]; omega⟩
          · have hji : ¬ (j : Int) < (Q : Int) := by omega
            have hdj : decide ((j : Int) < (Q : Int)) = false := decide_eq_false hji
            go_wp2_with fail
            go_loopw [15] (fun i wr => ∃ j : Nat, j ≤ M2 ∧ i = .int .u64 ((j + 1 : Nat) : Int) ∧ RefsIs w.heap.size wr b L2 ∧ OverIs wr om L2 ∧ Has wr u 60 #[.int .i64 4, .int .i64 y.H.Slot, .int .u64 y.H.Gen, .int .u64 y.Ref] ∧ Below w.heap.size w wr) (fun i _ => M2 + 1 - (intOf i).toNat)
            case atStart => exact ⟨0, Nat.zero_le _, rfl, HR.out, OV.out, HQ.out, B1.out⟩
            case round =>
              clear HR OV HQ B1
              obtain ⟨j, hj, rfl, hR, hO, hQ, hB⟩ := hrel
              have HR := hide hR
              have OV := hide hO
              have HQ := hide hQ
              have B1 := hide hB
              clear hR hO hQ hB
              obtain ⟨X, hX⟩ : ∃ X : Nat, X = j + 1 := ⟨_, rfl⟩
              rw [← hX]
              have hXw : IntKind.u64.wrap ((X : Int) + 1) = (X : Int) + 1 := wrap_u64 (by omega) (by omega)
              by_cases hjl : j < M2
              · have hdj : decide ((X : Int) ≤ (M2 : Int)) = true := decide_eq_true (by omega)
                have hdx : X ≤ M2 := by omega
                obtain ⟨z, hz⟩ : ∃ z, L2[j]? = some z := ⟨_, List.getElem?_eq_getElem (by rw [← HM2.out]; exact hjl)⟩
                have CO := fun W (h : RefsIs w.heap.size W b L2) => refs_Of w.heap.size W b L2 h (by have := HM2.out; omega) j z hz
                rw [← hX] at CO
                have CO := hide CO
                have hzk := HK2.out z (List.mem_of_getElem? hz)
                have HZ := hide hz
                have HX := hide hX
                have HXO := hide (u64_ok (X := (X : Int)) (by omega) (by omega))
                clear hX
                go_wp2_with fail
                refine (CO.out _ HR.out).mono ?_
                rintro e W3 ⟨rfl, hb3⟩
                have BH := below_on hb3 ((Below.refl W3.heap.size W3).alloc (Nat.le_refl _) (.cells #[.int .i64 z.s, .int .u64 z.g] 58))
                have HR := hide (HR.out.below BH)
                have OV := hide (OV.out.below BH)
                have HQ := hide (HQ.out.below BH HQ.out.lt)
                have B1 := hide (below_on B1.out BH)
                have s0 : (W3.alloc (.cells #[.int .i64 z.s, .int .u64 z.g] 58)).cell? ⟨u, 0, none⟩ = some (.int .i64 4) := HQ.out.cell 0
                obtain ⟨ov, hov, hlk⟩ := OV.out.get HXO.out
                obtain ⟨W4, hW4⟩ : ∃ W4, W4 = W3.alloc (.cells #[.int .i64 z.s, .int .u64 z.g] 58) := ⟨_, rfl⟩
                have HW4 := hide hW4
                rw [← hW4] at HR OV HQ B1
                have hov2 : ov = 0 ∨ (ov = 1 ∧ z.k = 3) := by
                  rcases hov with h | ⟨h1, h2⟩
                  · exact .inl h
                  · exact .inr ⟨h1, h2 j z (by rw [HX.out]) HZ.out⟩
                have hz2 := HD4.out j z HZ.out
                have HZ2 := hide hz2
                generalize hzs : z.k = zk at *
                have HZS := hide hzs
                clear hov hb3 BH hzs hz hz2 hW4
                rcases hzk with rfl | rfl | rfl
                · have hov3 : ov = 0 := by rcases hov2 with h | ⟨_, h⟩; exact h; cases h
                  subst hov3
                  clear hov2
                  go_wp2_with fail
                  rw [← HW4.out]
                  go_roundw
                  case rel => exact ⟨j + 1, by omega, by rw [HX.out]; simp, HR.out, OV.out, HQ.out, B1.out⟩
                  case measure => rw [HX.out]; simp [intOf]; omega
                · have hov3 : ov = 0 := by rcases hov2 with h | ⟨_, h⟩; exact h; cases h
                  subst hov3
                  clear hov2
                  exact absurd rfl (HZ2.out trivial)
                · obtain ⟨W5, hpt, hov5, ht5⟩ := OV.out.put HXO.out (by rw [HX.out]) HZ.out HZS.out
                  rw [HW4.out] at hpt
                  have HR := hide (HR.out.mapTurned OV.out ht5)
                  have HQ := hide (HQ.out.turned ht5 (OV.out.ne HQ.out))
                  have B1 := hide (B1.out.trans (ht5.below B1.out.size (fun k hk => by rw [hk]; exact HOM.out)))
                  have OV := hide hov5
                  clear hov5 ht5
                  rcases hov2 with rfl | ⟨rfl, _⟩
                  all_goals
                    go_wp2_with fail
                    go_roundw
                    case rel => exact ⟨j + 1, by omega, by rw [HX.out]; simp, HR.out, OV.out, HQ.out, B1.out⟩
                    case measure => rw [HX.out]; simp [intOf]; omega
              · have hdj : decide ((X : Int) ≤ (M2 : Int)) = false := decide_eq_false (by omega)
                have hdx : ¬ X ≤ M2 := by omega
                clear hX
                go_wp2_with fail
                go_roundw
                case rel => exact ⟨k + 1, L2, by omega, by simp, by rw [HM2.out], HLK.out, HK2.out, HR.out, OV.out, B1.out⟩
                case measure => simp [intOf]; omega
      · obtain ⟨L2, hL2⟩ : ∃ L2, L2 = L := ⟨_, rfl⟩
        have HK2 := hide (show Kinds L2 by rw [hL2]; exact HK.out)
        have OV := hide (show OverIs _ om L2 from OV.out.stay (by rw [hL2]; exact Stay.refl L))
        have HD4 := hide (show ∀ (j : Nat) (z : Rf), L2[j]? = some z → (False → z.k ≠ 2) by rw [hL2]; exact fun _ _ _ h => h.elim)
        rw [← hL2] at HR
        obtain ⟨M2, hM2⟩ : ∃ M2, M2 = L2.length := ⟨_, rfl⟩
        have hM3 : M2 = M := by rw [hM2, hL2]; rw [HMM.out]
        have HLK := hide (show L2.length ≤ k + 1 by have := HMM.out; omega)
        have hM200 : M2 ≤ 201 := by omega
        have HM2 := hide hM2
        clear hL2 hM2
        rw [← hM3]
        have HM3 := hide hM3
        clear hM3
        go_wp2_with fail
        clear s0 s1 s2 s3
        go_loopw [15] (fun i wr => ∃ j : Nat, j ≤ M2 ∧ i = .int .u64 ((j + 1 : Nat) : Int) ∧ RefsIs w.heap.size wr b L2 ∧ OverIs wr om L2 ∧ Has wr u 60 #[.int .i64 d, .int .i64 y.H.Slot, .int .u64 y.H.Gen, .int .u64 y.Ref] ∧ Below w.heap.size w wr) (fun i _ => M2 + 1 - (intOf i).toNat)
        case atStart => exact ⟨0, Nat.zero_le _, rfl, HR.out, OV.out, HQ.out, B1.out⟩
        case round =>
          clear HR OV HQ B1
          obtain ⟨j, hj, rfl, hR, hO, hQ, hB⟩ := hrel
          have HR := hide hR
          have OV := hide hO
          have HQ := hide hQ
          have B1 := hide hB
          clear hR hO hQ hB
          obtain ⟨X, hX⟩ : ∃ X : Nat, X = j + 1 := ⟨_, rfl⟩
          rw [← hX]
          have hXw : IntKind.u64.wrap ((X : Int) + 1) = (X : Int) + 1 := wrap_u64 (by omega) (by omega)
          by_cases hjl : j < M2
          · have hdj : decide ((X : Int) ≤ (M2 : Int)) = true := decide_eq_true (by omega)
            have hdx : X ≤ M2 := by omega
            obtain ⟨z, hz⟩ : ∃ z, L2[j]? = some z := ⟨_, List.getElem?_eq_getElem (by rw [← HM2.out]; exact hjl)⟩
            have CO := fun W (h : RefsIs w.heap.size W b L2) => refs_Of w.heap.size W b L2 h (by have := HM2.out; omega) j z hz
            rw [← hX] at CO
            have CO := hide CO
            have hzk := HK2.out z (List.mem_of_getElem? hz)
            have HZ := hide hz
            have HX := hide hX
            have HXO := hide (u64_ok (X := (X : Int)) (by omega) (by omega))
            clear hX
            go_wp2_with fail
            refine (CO.out _ HR.out).mono ?_
            rintro e W3 ⟨rfl, hb3⟩
            have BH := below_on hb3 ((Below.refl W3.heap.size W3).alloc (Nat.le_refl _) (.cells #[.int .i64 z.s, .int .u64 z.g] 58))
            have HR := hide (HR.out.below BH)
            have OV := hide (OV.out.below BH)
            have HQ := hide (HQ.out.below BH HQ.out.lt)
            have B1 := hide (below_on B1.out BH)
            have s0 : (W3.alloc (.cells #[.int .i64 z.s, .int .u64 z.g] 58)).cell? ⟨u, 0, none⟩ = some (.int .i64 d) := HQ.out.cell 0
            obtain ⟨ov, hov, hlk⟩ := OV.out.get HXO.out
            obtain ⟨W4, hW4⟩ : ∃ W4, W4 = W3.alloc (.cells #[.int .i64 z.s, .int .u64 z.g] 58) := ⟨_, rfl⟩
            have HW4 := hide hW4
            rw [← hW4] at HR OV HQ B1
            have hov2 : ov = 0 ∨ (ov = 1 ∧ z.k = 3) := by
              rcases hov with h | ⟨h1, h2⟩
              · exact .inl h
              · exact .inr ⟨h1, h2 j z (by rw [HX.out]) HZ.out⟩
            have hz2 := HD4.out j z HZ.out
            have HZ2 := hide hz2
            generalize hzs : z.k = zk at *
            have HZS := hide hzs
            clear hov hb3 BH hzs hz hz2 hW4
            rcases hzk with rfl | rfl | rfl
            · have hov3 : ov = 0 := by rcases hov2 with h | ⟨_, h⟩; exact h; cases h
              subst hov3
              clear hov2
              go_wp2_with fail
              rw [← HW4.out]
              go_roundw
              case rel => exact ⟨j + 1, by omega, by rw [HX.out]; simp, HR.out, OV.out, HQ.out, B1.out⟩
              case measure => rw [HX.out]; simp [intOf]; omega
            · have hov3 : ov = 0 := by rcases hov2 with h | ⟨_, h⟩; exact h; cases h
              subst hov3
              clear hov2
              go_wp2_with fail
              rw [← HW4.out]
              go_roundw
              case rel => exact ⟨j + 1, by omega, by rw [HX.out]; simp, HR.out, OV.out, HQ.out, B1.out⟩
              case measure => rw [HX.out]; simp [intOf]; omega
            · obtain ⟨W5, hpt, hov5, ht5⟩ := OV.out.put HXO.out (by rw [HX.out]) HZ.out HZS.out
              rw [HW4.out] at hpt
              have HR := hide (HR.out.mapTurned OV.out ht5)
              have HQ := hide (HQ.out.turned ht5 (OV.out.ne HQ.out))
              have B1 := hide (B1.out.trans (ht5.below B1.out.size (fun k hk => by rw [hk]; exact HOM.out)))
              have OV := hide hov5
              clear hov5 ht5
              rcases hov2 with rfl | ⟨rfl, _⟩
              all_goals
                go_wp2_with fail
                go_roundw
                case rel => exact ⟨j + 1, by omega, by rw [HX.out]; simp, HR.out, OV.out, HQ.out, B1.out⟩
                case measure => rw [HX.out]; simp [intOf]; omega
          · have hdj : decide ((X : Int) ≤ (M2 : Int)) = false := decide_eq_false (by omega)
            have hdx : ¬ X ≤ M2 := by omega
            clear hX
            go_wp2_with fail
            go_roundw
            case rel => exact ⟨k + 1, L2, by omega, by simp, by rw [HM2.out], HLK.out, HK2.out, HR.out, OV.out, B1.out⟩
            case measure => simp [intOf]; omega
    · have hdl : decide ((k : Int) < (N : Int)) = false := decide_eq_false (by omega)
      have B1 := hide hB
      clear hB hR hO
      go_wp2_with fail
      refine (refs_works _).mono ?_
      rintro e w4 ⟨rfl, hb⟩
      have B1 := hide (below_on B1.out hb)
      clear hb
      go_wp2_with fail
      go_ret
      exact ⟨rfl, B1.out⟩

end Go.Proofs.Ytjfcpajajaigfaa
