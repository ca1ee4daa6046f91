import Derived.Test.YtagminbfboncoaaListPush
/-! Package list: Remove. -/
namespace Go.Proofs.Ytagminbfboncoaa
open Go.RowKit Go.Maps
set_option maxHeartbeats 2000000
set_option maxRecDepth 100000
set_option linter.unusedSimpArgs false
set_option linter.unusedVariables false

/-- What becomes of the row. -/
def removed (hs : List (Int × Int)) (p : Int × Int) : List (Int × Int) := match hAt hs p with | some i => hs.eraseIdx i | none => hs

theorem ks_apart {ks : List Nat} (hn : ks.Nodup) {i j k l : Nat} (hi : ks[i]? = some k) (hj : ks[j]? = some l) (hij : i ≠ j) : k ≠ l := by
  rintro rfl
  exact hij ((List.getElem?_inj (List.getElem?_eq_some_iff.1 hi).1 hn).1 (hi.trans hj.symm))

theorem list_remove_absent (N : Nat) (w : World) (b mb : Nat) (hs : List (Int × Int)) (h : ListIs N w b mb hs) (p : Int × Int) (hok : hOk p) (hi : hAt hs p = none) :
    Calls Try.prog 22 #[.pointer (some ⟨b, 0, none⟩), .agg #[.int .i64 p.1, .int .u64 p.2]] w (ListTo N w b mb hs (.bool false)) := by
  have HCC := hide (fun W (h : ListIs N W b mb hs) => list_has N W b mb hs h p hok)
  rw [hi] at HCC
  have HL := hide h
  have hNw : N ≤ w.heap.size := by
    obtain ⟨ks, m, hNb, _, hb0, _⟩ := h
    exact Nat.le_trans hNb (Nat.le_of_lt hb0.lt)
  obtain ⟨s, g⟩ := p
  clear h hi
  simp only [Option.isSome] at HCC
  go_enter Try.func22, Try.ntmps22
  have h0 : (w.alloc (.cells #[.int .i64 s, .int .u64 g] 29)).cell? ⟨w.heap.size, 0, none⟩ = some (.int .i64 s) := (Has.new w _ _).cell 0
  have h1 : (w.alloc (.cells #[.int .i64 s, .int .u64 g] 29)).cell? ⟨w.heap.size, 1, none⟩ = some (.int .u64 g) := (Has.new w _ _).cell 1
  go_wp2_with fail
  clear h0 h1
  refine (HCC.out _ (HL.out.below ((Below.refl _ w).alloc (Nat.le_refl _) _))).mono ?_
  rintro e W0 ⟨rfl, hb⟩
  have B0 : Hid (Below w.heap.size w W0) := hide (below_on (by go_grown) hb)
  have HX := hide ((Has.new w 29 #[.int .i64 s, .int .u64 g]).below hb (by simp))
  clear hb
  go_wp2_with fail
  go_returns
  exact ⟨rfl, HL.out.below B0.out, B0.out.mono hNw, Turned.of_below B0.out⟩

theorem list_remove_00 (N : Nat) (w : World) (b mb : Nat) (hs : List (Int × Int)) (h : ListIs N w b mb hs) (p : Int × Int) (hok : hOk p) (i : Nat) (hi : hAt hs p = some i) (hp : i = 0) (hn : i + 1 = hs.length) :
    Calls Try.prog 22 #[.pointer (some ⟨b, 0, none⟩), .agg #[.int .i64 p.1, .int .u64 p.2]] w (ListTo N w b mb (hs.eraseIdx i) (.bool true)) := by
  have HCC := hide (fun W (h : ListIs N W b mb hs) => list_has N W b mb hs h p hok)
  rw [hi] at HCC
  have HL := hide h
  obtain ⟨ks, m, hNb, hNm, hb0, hc, hnd, hoks, hm, hml, hg⟩ := h
  have HR := hide (fun W (hm : MapIs W mb hKey hOk m) => list_get hm hg p hok)
  have HU := hide (fun W (hm : MapIs W mb hKey hOk m) => run_del (w := W) (ty := 0) handle_mkey Try.underlying55 hm (a := p) hok)
  have HM := hide hm
  have HB := hide hb0
  have hlt : i < hs.length := (List.getElem?_eq_some_iff.1 (hAt_some hi)).1
  have hkn : ks.length = hs.length := hc.1
  obtain ⟨k, hk⟩ : ∃ k, ks[i]? = some k := ⟨_, List.getElem?_eq_getElem (by omega)⟩
  have hlk : linkOf hs ks p = some k := by unfold linkOf; rw [hi]; exact hk
  rw [hlk] at HR
  obtain ⟨hNk, hl⟩ := hc.2.2 i p k (hAt_some hi) hk
  have HK := hide hl
  have HC := hide hc
  have HN := hide hnd
  have HO := hide hoks
  have HG := hide (mapOf_del (m := m) (hs := hs) (ks := ks) ⟨hml, hg⟩ hm.nodup hnd hi (mdel_len (by
    rw [hg p]
    show ((hAt hs p).bind _).isSome = true
    rw [hi]
    simp [hk])))
  have hNw : N ≤ w.heap.size := Nat.le_trans hNb (Nat.le_of_lt hb0.lt)
  have HNN := hide (And.intro hNb (And.intro hNm hNk))
  have HI := hide (And.intro hi (And.intro hk (And.intro hlt hkn)))
  have ea : ahead ks i = none := by unfold ahead; rw [if_pos hp]
  have hkq : ks[i + 1]? = none := List.getElem?_eq_none (by omega)
  rw [ea, hkq] at HK
  have HE := hide (And.intro ea (And.intro hkq (And.intro hp hn)))
  obtain ⟨s, g⟩ := p
  clear hi hlt hk hlk hl hc hm hg hb0 hnd hoks hml hNb hNm hok hNk hkn ea hkq hp hn
  simp only [lp, Option.map, Option.isSome] at HR HK HCC
  go_enter Try.func22, Try.ntmps22
  have h0 : (w.alloc (.cells #[.int .i64 s, .int .u64 g] 29)).cell? ⟨w.heap.size, 0, none⟩ = some (.int .i64 s) := (Has.new w _ _).cell 0
  have h1 : (w.alloc (.cells #[.int .i64 s, .int .u64 g] 29)).cell? ⟨w.heap.size, 1, none⟩ = some (.int .u64 g) := (Has.new w _ _).cell 1
  go_wp2_with fail
  clear h0 h1
  refine (HCC.out _ (HL.out.below ((Below.refl _ w).alloc (Nat.le_refl _) _))).mono ?_
  rintro e W0 ⟨rfl, hb⟩
  have B0 : Hid (Below w.heap.size w W0) := hide (below_on (by go_grown) hb)
  have HX := hide ((Has.new w 29 #[.int .i64 s, .int .u64 g]).below hb (by simp))
  clear hb
  go_wp2_with fail
  have HM0 := hide (HM.out.kept (B0.out.block _ HM.out.lt))
  have HB0 := hide (HB.out.below B0.out HB.out.lt)
  refine wp_region_fixed [10, 11, 12, 13, 14, 15]
    [.pointer (some ⟨b, 0, none⟩), .pointer (some ⟨b, 0, none⟩), .pointer (some ⟨b, 0, none⟩), .map (some mb), .agg #[.int .i64 s, .int .u64 g], .pointer (some ⟨k, 0, none⟩)] (by kernel_rfl) (by simp) rfl (by kernel_rfl) (by kernel_rfl) (by kernel_rfl) (by simp) (by decide) ?_ ?_
  · refine ⟨?_, ?_, ?_, ?_, ?_, ?_, trivial⟩
    · exact .inl ⟨.inl rfl, fun a' W hB hold he K hK => fx_move (.tmp 0) _ (.inl rfl) (hold 0 (by decide)) (hK _ (Below.refl _ _))⟩
    · exact .inl ⟨.inl rfl, fun a' W hB hold he K hK => fx_nil (.tmp 10) _ rfl (he ⟨0, .data⟩ (by simp) rfl) (hK _ (Below.refl _ _))⟩
    · exact .inl ⟨.inl rfl, fun a' W hB hold he K hK => fx_field 58 (.tmp 11) 0 _ _ rfl (he ⟨1, .data⟩ (by simp) rfl) (by kernel_rfl) (hK _ (Below.refl _ _))⟩
    · exact .inl ⟨.inl rfl, fun a' W hB hold he K hK => wp_step_load 55 (.tmp 12) _ rfl _ (he ⟨2, .data⟩ (by simp) rfl) (load_all W _ _ _ _ (HB0.out.below hB HB0.out.lt)) (hK _ (Below.refl _ _))⟩
    · exact .inl ⟨.inl rfl, fun a' W hB hold he K hK => wp_step_load 29 (.tmp 3) _ rfl _ (hold 3 (by decide)) (load_h W _ _ _ (HX.out.below hB HX.out.lt)) (hK _ (Below.refl _ _))⟩
    · exact .inl ⟨.inl rfl, fun a' W hB hold he K hK => fx_lookup 55 (.tmp 13) (.tmp 14) false _ _ _ rfl (he ⟨3, .data⟩ (by simp) rfl) (he ⟨4, .data⟩ (by simp) rfl) (HR.out W (HM0.out.kept (hB.block _ HM0.out.lt))) (hK _ (Below.refl _ _))⟩
  intro W1 hb
  have B1 := hide (below_on B0.out hb)
  have HX1 := hide (HX.out.below hb HX.out.lt)
  have HM1 := hide (HM0.out.kept (hb.block _ HM0.out.lt))
  have HB1 := hide (HB0.out.below hb HB0.out.lt)
  clear hb HX HM0 HB0 B0
  simp only [putAll, List.length_cons, List.length_nil, Nat.reduceAdd, List.drop_succ_cons, List.drop_zero]
  go_wp2_with fail
  refine wp_region_fixed [16, 17, 18, 19, 20]
    [.pointer (some ⟨b, 0, none⟩), .pointer (some ⟨b, 0, none⟩), .pointer (some ⟨b, 0, none⟩), .map (some mb), .agg #[.int .i64 s, .int .u64 g]] (by kernel_rfl) (by simp) rfl (by kernel_rfl) (by kernel_rfl) (by kernel_rfl) (by simp) (by decide) ?_ ?_
  · refine ⟨?_, ?_, ?_, ?_, ?_, trivial⟩
    · exact .inl ⟨.inl rfl, fun a' W hB hold he K hK => fx_move (.tmp 0) _ (.inl rfl) (hold 0 (by decide)) (hK _ (Below.refl _ _))⟩
    · exact .inl ⟨.inl rfl, fun a' W hB hold he K hK => fx_nil (.tmp 16) _ rfl (he ⟨0, .data⟩ (by simp) rfl) (hK _ (Below.refl _ _))⟩
    · exact .inl ⟨.inl rfl, fun a' W hB hold he K hK => fx_field 58 (.tmp 17) 0 _ _ rfl (he ⟨1, .data⟩ (by simp) rfl) (by kernel_rfl) (hK _ (Below.refl _ _))⟩
    · exact .inl ⟨.inl rfl, fun a' W hB hold he K hK => wp_step_load 55 (.tmp 18) _ rfl _ (he ⟨2, .data⟩ (by simp) rfl) (load_all W _ _ _ _ (HB1.out.below hB HB1.out.lt)) (hK _ (Below.refl _ _))⟩
    · exact .inl ⟨.inl rfl, fun a' W hB hold he K hK => wp_step_load 29 (.tmp 3) _ rfl _ (hold 3 (by decide)) (load_h W _ _ _ (HX1.out.below hB HX1.out.lt)) (hK _ (Below.refl _ _))⟩
  intro W3 hb
  have B3 := hide (below_on B1.out hb)
  have HM3 := hide (HM1.out.kept (hb.block _ HM1.out.lt))
  have HB3 := hide (HB1.out.below hb HB1.out.lt)
  clear hb HX1 HM1 HB1 B1
  obtain ⟨W4, h2, hm4, ht4⟩ := HU.out W3 HM3.out
  have h2 : ∀ ty, (Builtin.delete_ #[55, 29] ty #[.map (some mb), .agg #[.int .i64 s, .int .u64 g]]).run Try.prog W3 = .ok (.tuple #[]) W4 := fun _ => h2
  have HM4 := hide hm4
  have hbm := has_not_map HB3.out HM3.out
  have HB4 := hide (HB3.out.turned ht4 hbm)
  have T4 := hide (((Turned.of_below (S := fun k => k = mb) B3.out).trans ht4).wide (S2 := ListMay mb w) (fun k _ hk => by rw [hk]; exact may_map HM.out))
  have HC4 := hide (fun (k : Nat) (cs : Array Value) (hk : Has w k 60 cs) => (hk.below B3.out hk.lt).turned ht4 (has_not_map hk HM.out))
  have hN4 := hide (B3.out.mono hNw |>.trans (ht4.below (B := N) (Nat.le_trans hNw B3.out.size) (fun k hk => by rw [hk]; exact HNN.out.2.1)))
  have HK4 := hide (HC4.out _ _ HK.out)
  clear hm4 ht4 HM3 HB3 B3 hbm
  have k2 : W4.cell? ⟨k, 2, none⟩ = some (.pointer none) := HK4.out.cell 2
  have k3 : W4.cell? ⟨k, 3, none⟩ = some (.pointer none) := HK4.out.cell 3
  have c1 : W4.cell? ⟨b, 1, none⟩ = some (lp ks[0]?) := HB4.out.cell 1
  have c2 : W4.cell? ⟨b, 2, none⟩ = some (lp ks[ks.length - 1]?) := HB4.out.cell 2
  have f1 := HB4.out.free 1
  have f2 := HB4.out.free 2
  simp only [putAll, List.length_cons, List.length_nil, Nat.reduceAdd, List.drop_succ_cons, List.drop_zero]
  go_wp2_with fail
  clear k2 k3 c1 c2 f1 f2 h2
  have hbk := HB4.out.ne HK4.out (by decide)
  have hkb := Ne.symm hbk
  go_returns
  have hB := ((HB4.out.set 1 (.pointer none)).set 2 (.pointer none))
  have hC : ∀ (j k' : Nat), ks[j]? = some k' → ∀ (cs : Array Value), Has w k' 60 cs → Has ((W4.setCell ⟨b, 1, none⟩ (.pointer none)).setCell ⟨b, 2, none⟩ (.pointer none)) k' 60 cs := fun j k' h0 cs hk => (((HC4.out _ _ hk).far (p := ⟨b, 1, none⟩) ((HC4.out _ _ hk).ne HB4.out (by decide)) _).far (p := ⟨b, 2, none⟩) ((HC4.out _ _ hk).ne HB4.out (by decide)) _)
  have hnd := HC.out.2.1
  obtain ⟨i1, i2, i3, i4⟩ := HI.out
  obtain ⟨e1, e2, e3, e4⟩ := HE.out
  have hCh := chain_del HC.out i3 (fun k' h hj hk hh => absurd hj (by omega)) (fun k' h hk hh => by rw [e2] at hk; cases hk) (fun j k' h1 h2 h3 hk cs hc => hC j k' hk cs hc)
  have hends : lp (ks.eraseIdx i)[0]? = .pointer none ∧ lp (ks.eraseIdx i)[(ks.eraseIdx i).length - 1]? = .pointer none := by
    have hl : (ks.eraseIdx i).length = ks.length - 1 := by rw [List.length_eraseIdx, if_pos (by omega)]
    refine ⟨?_, ?_⟩
    · rw [List.getElem?_eraseIdx, if_neg (by omega), show 0 + 1 = i + 1 by omega, e2]
      rfl
    · rw [hl, List.getElem?_eq_none (by rw [hl]; omega)]
      rfl
  refine ⟨rfl, ⟨ks.eraseIdx i, _, HNN.out.1, HNN.out.2.1, (by rw [hends.1, hends.2]; exact hB), hCh, HN.out.sublist (List.eraseIdx_sublist _ _), fun h hh => HO.out h ((List.eraseIdx_sublist _ _).subset hh), ((HM4.out.set _ _).set _ _), HG.out.1, HG.out.2⟩, ((hN4.out.setCell (p := ⟨b, 1, none⟩) HNN.out.1 _).setCell (p := ⟨b, 2, none⟩) HNN.out.1 _), ((T4.out.set (p := ⟨b, 1, none⟩) (fun _ => may_list HB.out) _).set (p := ⟨b, 2, none⟩) (fun _ => may_list HB.out) _)⟩

theorem list_remove_01 (N : Nat) (w : World) (b mb : Nat) (hs : List (Int × Int)) (h : ListIs N w b mb hs) (p : Int × Int) (hok : hOk p) (i : Nat) (hi : hAt hs p = some i) (hp : i = 0) (hn : i + 1 < hs.length) :
    Calls Try.prog 22 #[.pointer (some ⟨b, 0, none⟩), .agg #[.int .i64 p.1, .int .u64 p.2]] w (ListTo N w b mb (hs.eraseIdx i) (.bool true)) := by
  have HCC := hide (fun W (h : ListIs N W b mb hs) => list_has N W b mb hs h p hok)
  rw [hi] at HCC
  have HL := hide h
  obtain ⟨ks, m, hNb, hNm, hb0, hc, hnd, hoks, hm, hml, hg⟩ := h
  have HR := hide (fun W (hm : MapIs W mb hKey hOk m) => list_get hm hg p hok)
  have HU := hide (fun W (hm : MapIs W mb hKey hOk m) => run_del (w := W) (ty := 0) handle_mkey Try.underlying55 hm (a := p) hok)
  have HM := hide hm
  have HB := hide hb0
  have hlt : i < hs.length := (List.getElem?_eq_some_iff.1 (hAt_some hi)).1
  have hkn : ks.length = hs.length := hc.1
  obtain ⟨k, hk⟩ : ∃ k, ks[i]? = some k := ⟨_, List.getElem?_eq_getElem (by omega)⟩
  have hlk : linkOf hs ks p = some k := by unfold linkOf; rw [hi]; exact hk
  rw [hlk] at HR
  obtain ⟨hNk, hl⟩ := hc.2.2 i p k (hAt_some hi) hk
  have HK := hide hl
  have HC := hide hc
  have HN := hide hnd
  have HO := hide hoks
  have HG := hide (mapOf_del (m := m) (hs := hs) (ks := ks) ⟨hml, hg⟩ hm.nodup hnd hi (mdel_len (by
    rw [hg p]
    show ((hAt hs p).bind _).isSome = true
    rw [hi]
    simp [hk])))
  have hNw : N ≤ w.heap.size := Nat.le_trans hNb (Nat.le_of_lt hb0.lt)
  have HNN := hide (And.intro hNb (And.intro hNm hNk))
  have HI := hide (And.intro hi (And.intro hk (And.intro hlt hkn)))
  have ea : ahead ks i = none := by unfold ahead; rw [if_pos hp]
  obtain ⟨kn, hkq⟩ : ∃ k, ks[i + 1]? = some k := ⟨_, List.getElem?_eq_getElem (by omega)⟩
  obtain ⟨qn, hqn⟩ : ∃ q, hs[i + 1]? = some q := ⟨_, List.getElem?_eq_getElem (by omega)⟩
  have HKN := hide (hc.2.2 (i + 1) qn kn hqn hkq)
  have hkkn := ks_apart hc.2.1 hk hkq (by omega)
  rw [ea, hkq] at HK
  have HE := hide (And.intro ea (And.intro hkq (And.intro hp hn)))
  have HQ := hide (And.intro hkq hqn)
  obtain ⟨s, g⟩ := p
  clear hi hlt hk hlk hl hc hm hg hb0 hnd hoks hml hNb hNm hok hNk hkn ea hkq hp hn hqn
  simp only [lp, Option.map, Option.isSome] at HR HK HCC
  go_enter Try.func22, Try.ntmps22
  have h0 : (w.alloc (.cells #[.int .i64 s, .int .u64 g] 29)).cell? ⟨w.heap.size, 0, none⟩ = some (.int .i64 s) := (Has.new w _ _).cell 0
  have h1 : (w.alloc (.cells #[.int .i64 s, .int .u64 g] 29)).cell? ⟨w.heap.size, 1, none⟩ = some (.int .u64 g) := (Has.new w _ _).cell 1
  go_wp2_with fail
  clear h0 h1
  refine (HCC.out _ (HL.out.below ((Below.refl _ w).alloc (Nat.le_refl _) _))).mono ?_
  rintro e W0 ⟨rfl, hb⟩
  have B0 : Hid (Below w.heap.size w W0) := hide (below_on (by go_grown) hb)
  have HX := hide ((Has.new w 29 #[.int .i64 s, .int .u64 g]).below hb (by simp))
  clear hb
  go_wp2_with fail
  have HM0 := hide (HM.out.kept (B0.out.block _ HM.out.lt))
  have HB0 := hide (HB.out.below B0.out HB.out.lt)
  refine wp_region_fixed [10, 11, 12, 13, 14, 15]
    [.pointer (some ⟨b, 0, none⟩), .pointer (some ⟨b, 0, none⟩), .pointer (some ⟨b, 0, none⟩), .map (some mb), .agg #[.int .i64 s, .int .u64 g], .pointer (some ⟨k, 0, none⟩)] (by kernel_rfl) (by simp) rfl (by kernel_rfl) (by kernel_rfl) (by kernel_rfl) (by simp) (by decide) ?_ ?_
  · refine ⟨?_, ?_, ?_, ?_, ?_, ?_, trivial⟩
    · exact .inl ⟨.inl rfl, fun a' W hB hold he K hK => fx_move (.tmp 0) _ (.inl rfl) (hold 0 (by decide)) (hK _ (Below.refl _ _))⟩
    · exact .inl ⟨.inl rfl, fun a' W hB hold he K hK => fx_nil (.tmp 10) _ rfl (he ⟨0, .data⟩ (by simp) rfl) (hK _ (Below.refl _ _))⟩
    · exact .inl ⟨.inl rfl, fun a' W hB hold he K hK => fx_field 58 (.tmp 11) 0 _ _ rfl (he ⟨1, .data⟩ (by simp) rfl) (by kernel_rfl) (hK _ (Below.refl _ _))⟩
    · exact .inl ⟨.inl rfl, fun a' W hB hold he K hK => wp_step_load 55 (.tmp 12) _ rfl _ (he ⟨2, .data⟩ (by simp) rfl) (load_all W _ _ _ _ (HB0.out.below hB HB0.out.lt)) (hK _ (Below.refl _ _))⟩
    · exact .inl ⟨.inl rfl, fun a' W hB hold he K hK => wp_step_load 29 (.tmp 3) _ rfl _ (hold 3 (by decide)) (load_h W _ _ _ (HX.out.below hB HX.out.lt)) (hK _ (Below.refl _ _))⟩
    · exact .inl ⟨.inl rfl, fun a' W hB hold he K hK => fx_lookup 55 (.tmp 13) (.tmp 14) false _ _ _ rfl (he ⟨3, .data⟩ (by simp) rfl) (he ⟨4, .data⟩ (by simp) rfl) (HR.out W (HM0.out.kept (hB.block _ HM0.out.lt))) (hK _ (Below.refl _ _))⟩
  intro W1 hb
  have B1 := hide (below_on B0.out hb)
  have HX1 := hide (HX.out.below hb HX.out.lt)
  have HM1 := hide (HM0.out.kept (hb.block _ HM0.out.lt))
  have HB1 := hide (HB0.out.below hb HB0.out.lt)
  clear hb HX HM0 HB0 B0
  simp only [putAll, List.length_cons, List.length_nil, Nat.reduceAdd, List.drop_succ_cons, List.drop_zero]
  go_wp2_with fail
  refine wp_region_fixed [16, 17, 18, 19, 20]
    [.pointer (some ⟨b, 0, none⟩), .pointer (some ⟨b, 0, none⟩), .pointer (some ⟨b, 0, none⟩), .map (some mb), .agg #[.int .i64 s, .int .u64 g]] (by kernel_rfl) (by simp) rfl (by kernel_rfl) (by kernel_rfl) (by kernel_rfl) (by simp) (by decide) ?_ ?_
  · refine ⟨?_, ?_, ?_, ?_, ?_, trivial⟩
    · exact .inl ⟨.inl rfl, fun a' W hB hold he K hK => fx_move (.tmp 0) _ (.inl rfl) (hold 0 (by decide)) (hK _ (Below.refl _ _))⟩
    · exact .inl ⟨.inl rfl, fun a' W hB hold he K hK => fx_nil (.tmp 16) _ rfl (he ⟨0, .data⟩ (by simp) rfl) (hK _ (Below.refl _ _))⟩
    · exact .inl ⟨.inl rfl, fun a' W hB hold he K hK => fx_field 58 (.tmp 17) 0 _ _ rfl (he ⟨1, .data⟩ (by simp) rfl) (by kernel_rfl) (hK _ (Below.refl _ _))⟩
    · exact .inl ⟨.inl rfl, fun a' W hB hold he K hK => wp_step_load 55 (.tmp 18) _ rfl _ (he ⟨2, .data⟩ (by simp) rfl) (load_all W _ _ _ _ (HB1.out.below hB HB1.out.lt)) (hK _ (Below.refl _ _))⟩
    · exact .inl ⟨.inl rfl, fun a' W hB hold he K hK => wp_step_load 29 (.tmp 3) _ rfl _ (hold 3 (by decide)) (load_h W _ _ _ (HX1.out.below hB HX1.out.lt)) (hK _ (Below.refl _ _))⟩
  intro W3 hb
  have B3 := hide (below_on B1.out hb)
  have HM3 := hide (HM1.out.kept (hb.block _ HM1.out.lt))
  have HB3 := hide (HB1.out.below hb HB1.out.lt)
  clear hb HX1 HM1 HB1 B1
  obtain ⟨W4, h2, hm4, ht4⟩ := HU.out W3 HM3.out
  have h2 : ∀ ty, (Builtin.delete_ #[55, 29] ty #[.map (some mb), .agg #[.int .i64 s, .int .u64 g]]).run Try.prog W3 = .ok (.tuple #[]) W4 := fun _ => h2
  have HM4 := hide hm4
  have hbm := has_not_map HB3.out HM3.out
  have HB4 := hide (HB3.out.turned ht4 hbm)
  have T4 := hide (((Turned.of_below (S := fun k => k = mb) B3.out).trans ht4).wide (S2 := ListMay mb w) (fun k _ hk => by rw [hk]; exact may_map HM.out))
  have HC4 := hide (fun (k : Nat) (cs : Array Value) (hk : Has w k 60 cs) => (hk.below B3.out hk.lt).turned ht4 (has_not_map hk HM.out))
  have hN4 := hide (B3.out.mono hNw |>.trans (ht4.below (B := N) (Nat.le_trans hNw B3.out.size) (fun k hk => by rw [hk]; exact HNN.out.2.1)))
  have HK4 := hide (HC4.out _ _ HK.out)
  clear hm4 ht4 HM3 HB3 B3 hbm
  have k2 : W4.cell? ⟨k, 2, none⟩ = some (.pointer (some ⟨kn, 0, none⟩)) := HK4.out.cell 2
  have k3 : W4.cell? ⟨k, 3, none⟩ = some (.pointer none) := HK4.out.cell 3
  have c1 : W4.cell? ⟨b, 1, none⟩ = some (lp ks[0]?) := HB4.out.cell 1
  have c2 : W4.cell? ⟨b, 2, none⟩ = some (lp ks[ks.length - 1]?) := HB4.out.cell 2
  have f1 := HB4.out.free 1
  have f2 := HB4.out.free 2
  simp only [putAll, List.length_cons, List.length_nil, Nat.reduceAdd, List.drop_succ_cons, List.drop_zero]
  go_wp2_with fail
  clear k2 k3 c1 c2 f1 f2 h2
  have hbk := HB4.out.ne HK4.out (by decide)
  have hkb := Ne.symm hbk
  have Q4 := hide (HC4.out _ _ HKN.out.2)
  have hbn := HB4.out.ne Q4.out (by decide)
  have hnb := Ne.symm hbn
  have hnk := Ne.symm hkkn
  obtain ⟨W5, hW⟩ : ∃ W, W = (W4.setCell ⟨b, 1, none⟩ (.pointer (some ⟨kn, 0, none⟩))) := ⟨_, rfl⟩
  have HB5 : Hid (Has W5 b 58 #[.map (some mb), .pointer (some ⟨kn, 0, none⟩), lp ks[ks.length - 1]?]) := by rw [hW]; exact hide (HB4.out.set 1 (.pointer (some ⟨kn, 0, none⟩)))
  have HK5 : Hid (Has W5 k 60 #[.int .i64 s, .int .u64 g, .pointer (some ⟨kn, 0, none⟩), .pointer none]) := by rw [hW]; exact hide (HK4.out.far (p := ⟨b, 1, none⟩) hkb (.pointer (some ⟨kn, 0, none⟩)))
  have Q5 : Hid (Has W5 kn 60 #[.int .i64 qn.1, .int .u64 qn.2, lp ks[i + 1 + 1]?, lp (ahead ks (i + 1))]) := by rw [hW]; exact hide (Q4.out.far (p := ⟨b, 1, none⟩) hnb (.pointer (some ⟨kn, 0, none⟩)))
  have HM5 : Hid (MapIs W5 mb hKey hOk (mdel m (s, g))) := by rw [hW]; exact hide (HM4.out.set _ _)
  have hN5 : Hid (Below N w W5) := by rw [hW]; exact hide (hN4.out.setCell (p := ⟨b, 1, none⟩) HNN.out.1 _)
  have T5 : Hid (Turned (ListMay mb w) w W5) := by rw [hW]; exact hide (T4.out.set (p := ⟨b, 1, none⟩) (fun _ => may_list HB.out) _)
  have HC5 : Hid (∀ (j k' : Nat), ks[j]? = some k' → k' ≠ kn → ∀ (cs : Array Value), Has w k' 60 cs → Has W5 k' 60 cs) := by rw [hW]; exact hide (fun j k' h0 h2 cs hk => ((HC4.out _ _ hk).far (p := ⟨b, 1, none⟩) ((HC4.out _ _ hk).ne HB4.out (by decide)) _))
  rw [← hW]
  clear hW
  refine wp_region_fixed [55, 56, 57, 58, 59, 60, 61, 62, 63, 64]
    [.pointer (some ⟨k, 0, none⟩), .pointer (some ⟨k, 0, none⟩), .pointer (some ⟨k, 2, none⟩), .pointer (some ⟨kn, 0, none⟩), .pointer (some ⟨k, 0, none⟩), .pointer (some ⟨k, 0, none⟩), .pointer (some ⟨k, 3, none⟩), .pointer none, .pointer (some ⟨kn, 0, none⟩), .pointer (some ⟨kn, 3, none⟩)] (by kernel_rfl) (by simp) rfl (by kernel_rfl) (by kernel_rfl) (by kernel_rfl) (by simp) (by decide) ?_ ?_
  · refine ⟨?_, ?_, ?_, ?_, ?_, ?_, ?_, ?_, ?_, ?_, trivial⟩
    · exact .inl ⟨.inl rfl, fun a' W hB hold he K hK => fx_move (.tmp 5) _ (.inl rfl) (hold 5 (by decide)) (hK _ (Below.refl _ _))⟩
    · exact .inl ⟨.inl rfl, fun a' W hB hold he K hK => fx_nil (.tmp 55) _ rfl (he ⟨0, .data⟩ (by simp) rfl) (hK _ (Below.refl _ _))⟩
    · exact .inl ⟨.inl rfl, fun a' W hB hold he K hK => fx_field 60 (.tmp 56) 1 _ _ rfl (he ⟨1, .data⟩ (by simp) rfl) (by kernel_rfl) (hK _ (Below.refl _ _))⟩
    · exact .inl ⟨.inl rfl, fun a' W hB hold he K hK => wp_step_load 56 (.tmp 57) _ rfl _ (he ⟨2, .data⟩ (by simp) rfl) (load_end W _ _ _ ((HK5.out.below hB HK5.out.lt).cell 2)) (hK _ (Below.refl _ _))⟩
    · exact .inl ⟨.inl rfl, fun a' W hB hold he K hK => fx_move (.tmp 5) _ (.inl rfl) (hold 5 (by decide)) (hK _ (Below.refl _ _))⟩
    · exact .inl ⟨.inl rfl, fun a' W hB hold he K hK => fx_nil (.tmp 59) _ rfl (he ⟨4, .data⟩ (by simp) rfl) (hK _ (Below.refl _ _))⟩
    · exact .inl ⟨.inl rfl, fun a' W hB hold he K hK => fx_field 60 (.tmp 60) 2 _ _ rfl (he ⟨5, .data⟩ (by simp) rfl) (by kernel_rfl) (hK _ (Below.refl _ _))⟩
    · exact .inl ⟨.inl rfl, fun a' W hB hold he K hK => wp_step_load 56 (.tmp 61) _ rfl _ (he ⟨6, .data⟩ (by simp) rfl) (load_end W _ _ _ ((HK5.out.below hB HK5.out.lt).cell 3)) (hK _ (Below.refl _ _))⟩
    · exact .inl ⟨.inl rfl, fun a' W hB hold he K hK => fx_nil (.tmp 58) _ rfl (he ⟨3, .data⟩ (by simp) rfl) (hK _ (Below.refl _ _))⟩
    · exact .inl ⟨.inl rfl, fun a' W hB hold he K hK => fx_field 60 (.tmp 63) 2 _ _ rfl (he ⟨8, .data⟩ (by simp) rfl) (by kernel_rfl) (hK _ (Below.refl _ _))⟩
  intro W6 hb
  have HB6 := hide (HB5.out.below hb HB5.out.lt)
  have HK6 := hide (HK5.out.below hb HK5.out.lt)
  have Q6 := hide (Q5.out.below hb Q5.out.lt)
  have HM6 := hide (HM5.out.kept (hb.block _ HM5.out.lt))
  have T6 := hide (T5.out.trans (Turned.of_below hb))
  have hN6 := hide (hN5.out.trans (hb.mono (Nat.le_trans hNw T5.out.size)))
  have HC6 := hide (fun (j k' : Nat) (h0 : ks[j]? = some k') (h2 : k' ≠ kn) (cs : Array Value) (hk : Has w k' 60 cs) => (HC5.out j k' h0 h2 _ hk).below hb (HC5.out j k' h0 h2 _ hk).lt)
  clear hb
  simp only [putAll, List.length_cons, List.length_nil, Nat.reduceAdd, List.drop_succ_cons, List.drop_zero]
  have k2 : W6.cell? ⟨k, 2, none⟩ = some (.pointer (some ⟨kn, 0, none⟩)) := HK6.out.cell 2
  have k3 : W6.cell? ⟨k, 3, none⟩ = some (.pointer none) := HK6.out.cell 3
  have c1 : W6.cell? ⟨b, 1, none⟩ = some (.pointer (some ⟨kn, 0, none⟩)) := HB6.out.cell 1
  have c2 : W6.cell? ⟨b, 2, none⟩ = some (lp ks[ks.length - 1]?) := HB6.out.cell 2
  have f1 := HB6.out.free 1
  have f2 := HB6.out.free 2
  have n3 : W6.cell? ⟨kn, 3, none⟩ = some (lp (ahead ks (i + 1))) := Q6.out.cell 3
  have g3 := Q6.out.free 3
  go_wp2_with fail
  clear k2 k3 c1 c2 f1 f2 n3 g3
  go_returns
  have hB := (HB6.out.far (p := ⟨kn, 3, none⟩) hbn (.pointer none))
  have hQ := (Q6.out.set 3 (.pointer none))
  have hC : ∀ (j k' : Nat), ks[j]? = some k' → k' ≠ kn → ∀ (cs : Array Value), Has w k' 60 cs → Has (W6.setCell ⟨kn, 3, none⟩ (.pointer none)) k' 60 cs := fun j k' h0 h2 cs hk => ((HC6.out j k' h0 h2 _ hk).far (p := ⟨kn, 3, none⟩) h2 _)
  have hnd := HC.out.2.1
  obtain ⟨i1, i2, i3, i4⟩ := HI.out
  obtain ⟨e1, e2, e3, e4⟩ := HE.out
  obtain ⟨n1, n2⟩ := HQ.out
  have hCh := chain_del HC.out i3 (fun k' h hj hk hh => absurd hj (by omega)) (fun k' h hk hh => by rw [n1] at hk; rw [n2] at hh; cases hk; cases hh; rw [e1]; exact hQ) (fun j k' h1 h2 h3 hk cs hc => hC j k' hk (ks_apart hnd hk n1 (by omega)) cs hc)
  have hends : lp (ks.eraseIdx i)[0]? = .pointer (some ⟨kn, 0, none⟩) ∧ lp (ks.eraseIdx i)[(ks.eraseIdx i).length - 1]? = lp ks[ks.length - 1]? := by
    have hl : (ks.eraseIdx i).length = ks.length - 1 := by rw [List.length_eraseIdx, if_pos (by omega)]
    refine ⟨?_, ?_⟩
    · rw [List.getElem?_eraseIdx, if_neg (by omega), show 0 + 1 = i + 1 by omega, n1]
      rfl
    · rw [hl, List.getElem?_eraseIdx, if_neg (by omega), show ks.length - 1 - 1 + 1 = ks.length - 1 by omega]
  refine ⟨rfl, ⟨ks.eraseIdx i, _, HNN.out.1, HNN.out.2.1, (by rw [hends.1, hends.2]; exact hB), hCh, HN.out.sublist (List.eraseIdx_sublist _ _), fun h hh => HO.out h ((List.eraseIdx_sublist _ _).subset hh), (HM6.out.set _ _), HG.out.1, HG.out.2⟩, (hN6.out.setCell (p := ⟨kn, 3, none⟩) HKN.out.1 _), (T6.out.set (p := ⟨kn, 3, none⟩) (fun _ => may_link HKN.out.2) _)⟩

theorem list_remove_10 (N : Nat) (w : World) (b mb : Nat) (hs : List (Int × Int)) (h : ListIs N w b mb hs) (p : Int × Int) (hok : hOk p) (i : Nat) (hi : hAt hs p = some i) (hp : 0 < i) (hn : i + 1 = hs.length) :
    Calls Try.prog 22 #[.pointer (some ⟨b, 0, none⟩), .agg #[.int .i64 p.1, .int .u64 p.2]] w (ListTo N w b mb (hs.eraseIdx i) (.bool true)) := by
  have HCC := hide (fun W (h : ListIs N W b mb hs) => list_has N W b mb hs h p hok)
  rw [hi] at HCC
  have HL := hide h
  obtain ⟨ks, m, hNb, hNm, hb0, hc, hnd, hoks, hm, hml, hg⟩ := h
  have HR := hide (fun W (hm : MapIs W mb hKey hOk m) => list_get hm hg p hok)
  have HU := hide (fun W (hm : MapIs W mb hKey hOk m) => run_del (w := W) (ty := 0) handle_mkey Try.underlying55 hm (a := p) hok)
  have HM := hide hm
  have HB := hide hb0
  have hlt : i < hs.length := (List.getElem?_eq_some_iff.1 (hAt_some hi)).1
  have hkn : ks.length = hs.length := hc.1
  obtain ⟨k, hk⟩ : ∃ k, ks[i]? = some k := ⟨_, List.getElem?_eq_getElem (by omega)⟩
  have hlk : linkOf hs ks p = some k := by unfold linkOf; rw [hi]; exact hk
  rw [hlk] at HR
  obtain ⟨hNk, hl⟩ := hc.2.2 i p k (hAt_some hi) hk
  have HK := hide hl
  have HC := hide hc
  have HN := hide hnd
  have HO := hide hoks
  have HG := hide (mapOf_del (m := m) (hs := hs) (ks := ks) ⟨hml, hg⟩ hm.nodup hnd hi (mdel_len (by
    rw [hg p]
    show ((hAt hs p).bind _).isSome = true
    rw [hi]
    simp [hk])))
  have hNw : N ≤ w.heap.size := Nat.le_trans hNb (Nat.le_of_lt hb0.lt)
  have HNN := hide (And.intro hNb (And.intro hNm hNk))
  have HI := hide (And.intro hi (And.intro hk (And.intro hlt hkn)))
  obtain ⟨kp, hkp⟩ : ∃ k, ks[i - 1]? = some k := ⟨_, List.getElem?_eq_getElem (by omega)⟩
  obtain ⟨qp, hqp⟩ : ∃ q, hs[i - 1]? = some q := ⟨_, List.getElem?_eq_getElem (by omega)⟩
  have ea : ahead ks i = some kp := by unfold ahead; rw [if_neg (by omega)]; exact hkp
  have HKP := hide (hc.2.2 (i - 1) qp kp hqp hkp)
  have hkkp := ks_apart hc.2.1 hk hkp (by omega)
  have hkq : ks[i + 1]? = none := List.getElem?_eq_none (by omega)
  rw [ea, hkq] at HK
  have HE := hide (And.intro ea (And.intro hkq (And.intro hp hn)))
  have HP := hide (And.intro hkp hqp)
  obtain ⟨s, g⟩ := p
  clear hi hlt hk hlk hl hc hm hg hb0 hnd hoks hml hNb hNm hok hNk hkn ea hkq hp hn hkp hqp
  simp only [lp, Option.map, Option.isSome] at HR HK HCC
  go_enter Try.func22, Try.ntmps22
  have h0 : (w.alloc (.cells #[.int .i64 s, .int .u64 g] 29)).cell? ⟨w.heap.size, 0, none⟩ = some (.int .i64 s) := (Has.new w _ _).cell 0
  have h1 : (w.alloc (.cells #[.int .i64 s, .int .u64 g] 29)).cell? ⟨w.heap.size, 1, none⟩ = some (.int .u64 g) := (Has.new w _ _).cell 1
  go_wp2_with fail
  clear h0 h1
  refine (HCC.out _ (HL.out.below ((Below.refl _ w).alloc (Nat.le_refl _) _))).mono ?_
  rintro e W0 ⟨rfl, hb⟩
  have B0 : Hid (Below w.heap.size w W0) := hide (below_on (by go_grown) hb)
  have HX := hide ((Has.new w 29 #[.int .i64 s, .int .u64 g]).below hb (by simp))
  clear hb
  go_wp2_with fail
  have HM0 := hide (HM.out.kept (B0.out.block _ HM.out.lt))
  have HB0 := hide (HB.out.below B0.out HB.out.lt)
  refine wp_region_fixed [10, 11, 12, 13, 14, 15]
    [.pointer (some ⟨b, 0, none⟩), .pointer (some ⟨b, 0, none⟩), .pointer (some ⟨b, 0, none⟩), .map (some mb), .agg #[.int .i64 s, .int .u64 g], .pointer (some ⟨k, 0, none⟩)] (by kernel_rfl) (by simp) rfl (by kernel_rfl) (by kernel_rfl) (by kernel_rfl) (by simp) (by decide) ?_ ?_
  · refine ⟨?_, ?_, ?_, ?_, ?_, ?_, trivial⟩
    · exact .inl ⟨.inl rfl, fun a' W hB hold he K hK => fx_move (.tmp 0) _ (.inl rfl) (hold 0 (by decide)) (hK _ (Below.refl _ _))⟩
    · exact .inl ⟨.inl rfl, fun a' W hB hold he K hK => fx_nil (.tmp 10) _ rfl (he ⟨0, .data⟩ (by simp) rfl) (hK _ (Below.refl _ _))⟩
    · exact .inl ⟨.inl rfl, fun a' W hB hold he K hK => fx_field 58 (.tmp 11) 0 _ _ rfl (he ⟨1, .data⟩ (by simp) rfl) (by kernel_rfl) (hK _ (Below.refl _ _))⟩
    · exact .inl ⟨.inl rfl, fun a' W hB hold he K hK => wp_step_load 55 (.tmp 12) _ rfl _ (he ⟨2, .data⟩ (by simp) rfl) (load_all W _ _ _ _ (HB0.out.below hB HB0.out.lt)) (hK _ (Below.refl _ _))⟩
    · exact .inl ⟨.inl rfl, fun a' W hB hold he K hK => wp_step_load 29 (.tmp 3) _ rfl _ (hold 3 (by decide)) (load_h W _ _ _ (HX.out.below hB HX.out.lt)) (hK _ (Below.refl _ _))⟩
    · exact .inl ⟨.inl rfl, fun a' W hB hold he K hK => fx_lookup 55 (.tmp 13) (.tmp 14) false _ _ _ rfl (he ⟨3, .data⟩ (by simp) rfl) (he ⟨4, .data⟩ (by simp) rfl) (HR.out W (HM0.out.kept (hB.block _ HM0.out.lt))) (hK _ (Below.refl _ _))⟩
  intro W1 hb
  have B1 := hide (below_on B0.out hb)
  have HX1 := hide (HX.out.below hb HX.out.lt)
  have HM1 := hide (HM0.out.kept (hb.block _ HM0.out.lt))
  have HB1 := hide (HB0.out.below hb HB0.out.lt)
  clear hb HX HM0 HB0 B0
  simp only [putAll, List.length_cons, List.length_nil, Nat.reduceAdd, List.drop_succ_cons, List.drop_zero]
  go_wp2_with fail
  refine wp_region_fixed [16, 17, 18, 19, 20]
    [.pointer (some ⟨b, 0, none⟩), .pointer (some ⟨b, 0, none⟩), .pointer (some ⟨b, 0, none⟩), .map (some mb), .agg #[.int .i64 s, .int .u64 g]] (by kernel_rfl) (by simp) rfl (by kernel_rfl) (by kernel_rfl) (by kernel_rfl) (by simp) (by decide) ?_ ?_
  · refine ⟨?_, ?_, ?_, ?_, ?_, trivial⟩
    · exact .inl ⟨.inl rfl, fun a' W hB hold he K hK => fx_move (.tmp 0) _ (.inl rfl) (hold 0 (by decide)) (hK _ (Below.refl _ _))⟩
    · exact .inl ⟨.inl rfl, fun a' W hB hold he K hK => fx_nil (.tmp 16) _ rfl (he ⟨0, .data⟩ (by simp) rfl) (hK _ (Below.refl _ _))⟩
    · exact .inl ⟨.inl rfl, fun a' W hB hold he K hK => fx_field 58 (.tmp 17) 0 _ _ rfl (he ⟨1, .data⟩ (by simp) rfl) (by kernel_rfl) (hK _ (Below.refl _ _))⟩
    · exact .inl ⟨.inl rfl, fun a' W hB hold he K hK => wp_step_load 55 (.tmp 18) _ rfl _ (he ⟨2, .data⟩ (by simp) rfl) (load_all W _ _ _ _ (HB1.out.below hB HB1.out.lt)) (hK _ (Below.refl _ _))⟩
    · exact .inl ⟨.inl rfl, fun a' W hB hold he K hK => wp_step_load 29 (.tmp 3) _ rfl _ (hold 3 (by decide)) (load_h W _ _ _ (HX1.out.below hB HX1.out.lt)) (hK _ (Below.refl _ _))⟩
  intro W3 hb
  have B3 := hide (below_on B1.out hb)
  have HM3 := hide (HM1.out.kept (hb.block _ HM1.out.lt))
  have HB3 := hide (HB1.out.below hb HB1.out.lt)
  clear hb HX1 HM1 HB1 B1
  obtain ⟨W4, h2, hm4, ht4⟩ := HU.out W3 HM3.out
  have h2 : ∀ ty, (Builtin.delete_ #[55, 29] ty #[.map (some mb), .agg #[.int .i64 s, .int .u64 g]]).run Try.prog W3 = .ok (.tuple #[]) W4 := fun _ => h2
  have HM4 := hide hm4
  have hbm := has_not_map HB3.out HM3.out
  have HB4 := hide (HB3.out.turned ht4 hbm)
  have T4 := hide (((Turned.of_below (S := fun k => k = mb) B3.out).trans ht4).wide (S2 := ListMay mb w) (fun k _ hk => by rw [hk]; exact may_map HM.out))
  have HC4 := hide (fun (k : Nat) (cs : Array Value) (hk : Has w k 60 cs) => (hk.below B3.out hk.lt).turned ht4 (has_not_map hk HM.out))
  have hN4 := hide (B3.out.mono hNw |>.trans (ht4.below (B := N) (Nat.le_trans hNw B3.out.size) (fun k hk => by rw [hk]; exact HNN.out.2.1)))
  have HK4 := hide (HC4.out _ _ HK.out)
  clear hm4 ht4 HM3 HB3 B3 hbm
  have k2 : W4.cell? ⟨k, 2, none⟩ = some (.pointer none) := HK4.out.cell 2
  have k3 : W4.cell? ⟨k, 3, none⟩ = some (.pointer (some ⟨kp, 0, none⟩)) := HK4.out.cell 3
  have c1 : W4.cell? ⟨b, 1, none⟩ = some (lp ks[0]?) := HB4.out.cell 1
  have c2 : W4.cell? ⟨b, 2, none⟩ = some (lp ks[ks.length - 1]?) := HB4.out.cell 2
  have f1 := HB4.out.free 1
  have f2 := HB4.out.free 2
  simp only [putAll, List.length_cons, List.length_nil, Nat.reduceAdd, List.drop_succ_cons, List.drop_zero]
  go_wp2_with fail
  clear k2 k3 c1 c2 f1 f2 h2
  have hbk := HB4.out.ne HK4.out (by decide)
  have hkb := Ne.symm hbk
  have P4 := hide (HC4.out _ _ HKP.out.2)
  have hbp := HB4.out.ne P4.out (by decide)
  have hpb := Ne.symm hbp
  have hpk := Ne.symm hkkp
  refine wp_region_fixed [33, 34, 35, 36, 37, 38, 39, 40, 41, 42]
    [.pointer (some ⟨k, 0, none⟩), .pointer (some ⟨k, 0, none⟩), .pointer (some ⟨k, 3, none⟩), .pointer (some ⟨kp, 0, none⟩), .pointer (some ⟨k, 0, none⟩), .pointer (some ⟨k, 0, none⟩), .pointer (some ⟨k, 2, none⟩), .pointer none, .pointer (some ⟨kp, 0, none⟩), .pointer (some ⟨kp, 2, none⟩)] (by kernel_rfl) (by simp) rfl (by kernel_rfl) (by kernel_rfl) (by kernel_rfl) (by simp) (by decide) ?_ ?_
  · refine ⟨?_, ?_, ?_, ?_, ?_, ?_, ?_, ?_, ?_, ?_, trivial⟩
    · exact .inl ⟨.inl rfl, fun a' W hB hold he K hK => fx_move (.tmp 5) _ (.inl rfl) (hold 5 (by decide)) (hK _ (Below.refl _ _))⟩
    · exact .inl ⟨.inl rfl, fun a' W hB hold he K hK => fx_nil (.tmp 33) _ rfl (he ⟨0, .data⟩ (by simp) rfl) (hK _ (Below.refl _ _))⟩
    · exact .inl ⟨.inl rfl, fun a' W hB hold he K hK => fx_field 60 (.tmp 34) 2 _ _ rfl (he ⟨1, .data⟩ (by simp) rfl) (by kernel_rfl) (hK _ (Below.refl _ _))⟩
    · exact .inl ⟨.inl rfl, fun a' W hB hold he K hK => wp_step_load 56 (.tmp 35) _ rfl _ (he ⟨2, .data⟩ (by simp) rfl) (load_end W _ _ _ ((HK4.out.below hB HK4.out.lt).cell 3)) (hK _ (Below.refl _ _))⟩
    · exact .inl ⟨.inl rfl, fun a' W hB hold he K hK => fx_move (.tmp 5) _ (.inl rfl) (hold 5 (by decide)) (hK _ (Below.refl _ _))⟩
    · exact .inl ⟨.inl rfl, fun a' W hB hold he K hK => fx_nil (.tmp 37) _ rfl (he ⟨4, .data⟩ (by simp) rfl) (hK _ (Below.refl _ _))⟩
    · exact .inl ⟨.inl rfl, fun a' W hB hold he K hK => fx_field 60 (.tmp 38) 1 _ _ rfl (he ⟨5, .data⟩ (by simp) rfl) (by kernel_rfl) (hK _ (Below.refl _ _))⟩
    · exact .inl ⟨.inl rfl, fun a' W hB hold he K hK => wp_step_load 56 (.tmp 39) _ rfl _ (he ⟨6, .data⟩ (by simp) rfl) (load_end W _ _ _ ((HK4.out.below hB HK4.out.lt).cell 2)) (hK _ (Below.refl _ _))⟩
    · exact .inl ⟨.inl rfl, fun a' W hB hold he K hK => fx_nil (.tmp 36) _ rfl (he ⟨3, .data⟩ (by simp) rfl) (hK _ (Below.refl _ _))⟩
    · exact .inl ⟨.inl rfl, fun a' W hB hold he K hK => fx_field 60 (.tmp 41) 1 _ _ rfl (he ⟨8, .data⟩ (by simp) rfl) (by kernel_rfl) (hK _ (Below.refl _ _))⟩
  intro W5 hb
  have HB5 := hide (HB4.out.below hb HB4.out.lt)
  have HK5 := hide (HK4.out.below hb HK4.out.lt)
  have P5 := hide (P4.out.below hb P4.out.lt)
  have HM5 := hide (HM4.out.kept (hb.block _ HM4.out.lt))
  have T5 := hide (T4.out.trans (Turned.of_below hb))
  have hN5 := hide (hN4.out.trans (hb.mono (Nat.le_trans hNw T4.out.size)))
  have HC5 := hide (fun (j k' : Nat) (h0 : ks[j]? = some k') (h1 : k' ≠ kp) (cs : Array Value) (hk : Has w k' 60 cs) => (HC4.out _ _ hk).below hb (HC4.out _ _ hk).lt)
  clear hb
  simp only [putAll, List.length_cons, List.length_nil, Nat.reduceAdd, List.drop_succ_cons, List.drop_zero]
  have k2 : W5.cell? ⟨k, 2, none⟩ = some (.pointer none) := HK5.out.cell 2
  have k3 : W5.cell? ⟨k, 3, none⟩ = some (.pointer (some ⟨kp, 0, none⟩)) := HK5.out.cell 3
  have c1 : W5.cell? ⟨b, 1, none⟩ = some (lp ks[0]?) := HB5.out.cell 1
  have c2 : W5.cell? ⟨b, 2, none⟩ = some (lp ks[ks.length - 1]?) := HB5.out.cell 2
  have f1 := HB5.out.free 1
  have f2 := HB5.out.free 2
  have p2 : W5.cell? ⟨kp, 2, none⟩ = some (lp ks[i - 1 + 1]?) := P5.out.cell 2
  have g2 := P5.out.free 2
  go_wp2_with fail
  clear k2 k3 c1 c2 f1 f2 p2 g2
  go_returns
  have hB := ((HB5.out.far (p := ⟨kp, 2, none⟩) hbp (.pointer none)).set 2 (.pointer (some ⟨kp, 0, none⟩)))
  have hP := ((P5.out.set 2 (.pointer none)).far (p := ⟨b, 2, none⟩) hpb (.pointer (some ⟨kp, 0, none⟩)))
  have hC : ∀ (j k' : Nat), ks[j]? = some k' → k' ≠ kp → ∀ (cs : Array Value), Has w k' 60 cs → Has ((W5.setCell ⟨kp, 2, none⟩ (.pointer none)).setCell ⟨b, 2, none⟩ (.pointer (some ⟨kp, 0, none⟩))) k' 60 cs := fun j k' h0 h1 cs hk => (((HC5.out j k' h0 h1 _ hk).far (p := ⟨kp, 2, none⟩) h1 _).far (p := ⟨b, 2, none⟩) ((HC5.out j k' h0 h1 _ hk).ne HB5.out (by decide)) _)
  have hnd := HC.out.2.1
  obtain ⟨i1, i2, i3, i4⟩ := HI.out
  obtain ⟨e1, e2, e3, e4⟩ := HE.out
  obtain ⟨p1, p2⟩ := HP.out
  have hCh := chain_del HC.out i3 (fun k' h hj hk hh => by rw [p1] at hk; rw [p2] at hh; cases hk; cases hh; rw [e2]; exact hP) (fun k' h hk hh => by rw [e2] at hk; cases hk) (fun j k' h1 h2 h3 hk cs hc => hC j k' hk (ks_apart hnd hk p1 (by omega)) cs hc)
  have hends : lp (ks.eraseIdx i)[0]? = lp ks[0]? ∧ lp (ks.eraseIdx i)[(ks.eraseIdx i).length - 1]? = .pointer (some ⟨kp, 0, none⟩) := by
    have hl : (ks.eraseIdx i).length = ks.length - 1 := by rw [List.length_eraseIdx, if_pos (by omega)]
    refine ⟨?_, ?_⟩
    · rw [List.getElem?_eraseIdx, if_pos (by omega)]
    · rw [hl, List.getElem?_eraseIdx, if_pos (by omega), show ks.length - 1 - 1 = i - 1 by omega, p1]
      rfl
  refine ⟨rfl, ⟨ks.eraseIdx i, _, HNN.out.1, HNN.out.2.1, (by rw [hends.1, hends.2]; exact hB), hCh, HN.out.sublist (List.eraseIdx_sublist _ _), fun h hh => HO.out h ((List.eraseIdx_sublist _ _).subset hh), ((HM5.out.set _ _).set _ _), HG.out.1, HG.out.2⟩, ((hN5.out.setCell (p := ⟨kp, 2, none⟩) HKP.out.1 _).setCell (p := ⟨b, 2, none⟩) HNN.out.1 _), ((T5.out.set (p := ⟨kp, 2, none⟩) (fun _ => may_link HKP.out.2) _).set (p := ⟨b, 2, none⟩) (fun _ => may_list HB.out) _)⟩

theorem list_remove_11 (N : Nat) (w : World) (b mb : Nat) (hs : List (Int × Int)) (h : ListIs N w b mb hs) (p : Int × Int) (hok : hOk p) (i : Nat) (hi : hAt hs p = some i) (hp : 0 < i) (hn : i + 1 < hs.length) :
    Calls Try.prog 22 #[.pointer (some ⟨b, 0, none⟩), .agg #[.int .i64 p.1, .int .u64 p.2]] w (ListTo N w b mb (hs.eraseIdx i) (.bool true)) := by
  have HCC := hide (fun W (h : ListIs N W b mb hs) => list_has N W b mb hs h p hok)
  rw [hi] at HCC
  have HL := hide h
  obtain ⟨ks, m, hNb, hNm, hb0, hc, hnd, hoks, hm, hml, hg⟩ := h
  have HR := hide (fun W (hm : MapIs W mb hKey hOk m) => list_get hm hg p hok)
  have HU := hide (fun W (hm : MapIs W mb hKey hOk m) => run_del (w := W) (ty := 0) handle_mkey Try.underlying55 hm (a := p) hok)
  have HM := hide hm
  have HB := hide hb0
  have hlt : i < hs.length := (List.getElem?_eq_some_iff.1 (hAt_some hi)).1
  have hkn : ks.length = hs.length := hc.1
  obtain ⟨k, hk⟩ : ∃ k, ks[i]? = some k := ⟨_, List.getElem?_eq_getElem (by omega)⟩
  have hlk : linkOf hs ks p = some k := by unfold linkOf; rw [hi]; exact hk
  rw [hlk] at HR
  obtain ⟨hNk, hl⟩ := hc.2.2 i p k (hAt_some hi) hk
  have HK := hide hl
  have HC := hide hc
  have HN := hide hnd
  have HO := hide hoks
  have HG := hide (mapOf_del (m := m) (hs := hs) (ks := ks) ⟨hml, hg⟩ hm.nodup hnd hi (mdel_len (by
    rw [hg p]
    show ((hAt hs p).bind _).isSome = true
    rw [hi]
    simp [hk])))
  have hNw : N ≤ w.heap.size := Nat.le_trans hNb (Nat.le_of_lt hb0.lt)
  have HNN := hide (And.intro hNb (And.intro hNm hNk))
  have HI := hide (And.intro hi (And.intro hk (And.intro hlt hkn)))
  obtain ⟨kp, hkp⟩ : ∃ k, ks[i - 1]? = some k := ⟨_, List.getElem?_eq_getElem (by omega)⟩
  obtain ⟨qp, hqp⟩ : ∃ q, hs[i - 1]? = some q := ⟨_, List.getElem?_eq_getElem (by omega)⟩
  have ea : ahead ks i = some kp := by unfold ahead; rw [if_neg (by omega)]; exact hkp
  have HKP := hide (hc.2.2 (i - 1) qp kp hqp hkp)
  have hkkp := ks_apart hc.2.1 hk hkp (by omega)
  obtain ⟨kn, hkq⟩ : ∃ k, ks[i + 1]? = some k := ⟨_, List.getElem?_eq_getElem (by omega)⟩
  obtain ⟨qn, hqn⟩ : ∃ q, hs[i + 1]? = some q := ⟨_, List.getElem?_eq_getElem (by omega)⟩
  have HKN := hide (hc.2.2 (i + 1) qn kn hqn hkq)
  have hkkn := ks_apart hc.2.1 hk hkq (by omega)
  have hkpn := ks_apart hc.2.1 hkp hkq (by omega)
  have hknp := Ne.symm hkpn
  rw [ea, hkq] at HK
  have HE := hide (And.intro ea (And.intro hkq (And.intro hp hn)))
  have HP := hide (And.intro hkp hqp)
  have HQ := hide (And.intro hkq hqn)
  obtain ⟨s, g⟩ := p
  clear hi hlt hk hlk hl hc hm hg hb0 hnd hoks hml hNb hNm hok hNk hkn ea hkq hp hn hkp hqp hqn
  simp only [lp, Option.map, Option.isSome] at HR HK HCC
  go_enter Try.func22, Try.ntmps22
  have h0 : (w.alloc (.cells #[.int .i64 s, .int .u64 g] 29)).cell? ⟨w.heap.size, 0, none⟩ = some (.int .i64 s) := (Has.new w _ _).cell 0
  have h1 : (w.alloc (.cells #[.int .i64 s, .int .u64 g] 29)).cell? ⟨w.heap.size, 1, none⟩ = some (.int .u64 g) := (Has.new w _ _).cell 1
  go_wp2_with fail
  clear h0 h1
  refine (HCC.out _ (HL.out.below ((Below.refl _ w).alloc (Nat.le_refl _) _))).mono ?_
  rintro e W0 ⟨rfl, hb⟩
  have B0 : Hid (Below w.heap.size w W0) := hide (below_on (by go_grown) hb)
  have HX := hide ((Has.new w 29 #[.int .i64 s, .int .u64 g]).below hb (by simp))
  clear hb
  go_wp2_with fail
  have HM0 := hide (HM.out.kept (B0.out.block _ HM.out.lt))
  have HB0 := hide (HB.out.below B0.out HB.out.lt)
  refine wp_region_fixed [10, 11, 12, 13, 14, 15]
    [.pointer (some ⟨b, 0, none⟩), .pointer (some ⟨b, 0, none⟩), .pointer (some ⟨b, 0, none⟩), .map (some mb), .agg #[.int .i64 s, .int .u64 g], .pointer (some ⟨k, 0, none⟩)] (by kernel_rfl) (by simp) rfl (by kernel_rfl) (by kernel_rfl) (by kernel_rfl) (by simp) (by decide) ?_ ?_
  · refine ⟨?_, ?_, ?_, ?_, ?_, ?_, trivial⟩
    · exact .inl ⟨.inl rfl, fun a' W hB hold he K hK => fx_move (.tmp 0) _ (.inl rfl) (hold 0 (by decide)) (hK _ (Below.refl _ _))⟩
    · exact .inl ⟨.inl rfl, fun a' W hB hold he K hK => fx_nil (.tmp 10) _ rfl (he ⟨0, .data⟩ (by simp) rfl) (hK _ (Below.refl _ _))⟩
    · exact .inl ⟨.inl rfl, fun a' W hB hold he K hK => fx_field 58 (.tmp 11) 0 _ _ rfl (he ⟨1, .data⟩ (by simp) rfl) (by kernel_rfl) (hK _ (Below.refl _ _))⟩
    · exact .inl ⟨.inl rfl, fun a' W hB hold he K hK => wp_step_load 55 (.tmp 12) _ rfl _ (he ⟨2, .data⟩ (by simp) rfl) (load_all W _ _ _ _ (HB0.out.below hB HB0.out.lt)) (hK _ (Below.refl _ _))⟩
    · exact .inl ⟨.inl rfl, fun a' W hB hold he K hK => wp_step_load 29 (.tmp 3) _ rfl _ (hold 3 (by decide)) (load_h W _ _ _ (HX.out.below hB HX.out.lt)) (hK _ (Below.refl _ _))⟩
    · exact .inl ⟨.inl rfl, fun a' W hB hold he K hK => fx_lookup 55 (.tmp 13) (.tmp 14) false _ _ _ rfl (he ⟨3, .data⟩ (by simp) rfl) (he ⟨4, .data⟩ (by simp) rfl) (HR.out W (HM0.out.kept (hB.block _ HM0.out.lt))) (hK _ (Below.refl _ _))⟩
  intro W1 hb
  have B1 := hide (below_on B0.out hb)
  have HX1 := hide (HX.out.below hb HX.out.lt)
  have HM1 := hide (HM0.out.kept (hb.block _ HM0.out.lt))
  have HB1 := hide (HB0.out.below hb HB0.out.lt)
  clear hb HX HM0 HB0 B0
  simp only [putAll, List.length_cons, List.length_nil, Nat.reduceAdd, List.drop_succ_cons, List.drop_zero]
  go_wp2_with fail
  refine wp_region_fixed [16, 17, 18, 19, 20]
    [.pointer (some ⟨b, 0, none⟩), .pointer (some ⟨b, 0, none⟩), .pointer (some ⟨b, 0, none⟩), .map (some mb), .agg #[.int .i64 s, .int .u64 g]] (by kernel_rfl) (by simp) rfl (by kernel_rfl) (by kernel_rfl) (by kernel_rfl) (by simp) (by decide) ?_ ?_
  · refine ⟨?_, ?_, ?_, ?_, ?_, trivial⟩
    · exact .inl ⟨.inl rfl, fun a' W hB hold he K hK => fx_move (.tmp 0) _ (.inl rfl) (hold 0 (by decide)) (hK _ (Below.refl _ _))⟩
    · exact .inl ⟨.inl rfl, fun a' W hB hold he K hK => fx_nil (.tmp 16) _ rfl (he ⟨0, .data⟩ (by simp) rfl) (hK _ (Below.refl _ _))⟩
    · exact .inl ⟨.inl rfl, fun a' W hB hold he K hK => fx_field 58 (.tmp 17) 0 _ _ rfl (he ⟨1, .data⟩ (by simp) rfl) (by kernel_rfl) (hK _ (Below.refl _ _))⟩
    · exact .inl ⟨.inl rfl, fun a' W hB hold he K hK => wp_step_load 55 (.tmp 18) _ rfl _ (he ⟨2, .data⟩ (by simp) rfl) (load_all W _ _ _ _ (HB1.out.below hB HB1.out.lt)) (hK _ (Below.refl _ _))⟩
    · exact .inl ⟨.inl rfl, fun a' W hB hold he K hK => wp_step_load 29 (.tmp 3) _ rfl _ (hold 3 (by decide)) (load_h W _ _ _ (HX1.out.below hB HX1.out.lt)) (hK _ (Below.refl _ _))⟩
  intro W3 hb
  have B3 := hide (below_on B1.out hb)
  have HM3 := hide (HM1.out.kept (hb.block _ HM1.out.lt))
  have HB3 := hide (HB1.out.below hb HB1.out.lt)
  clear hb HX1 HM1 HB1 B1
  obtain ⟨W4, h2, hm4, ht4⟩ := HU.out W3 HM3.out
  have h2 : ∀ ty, (Builtin.delete_ #[55, 29] ty #[.map (some mb), .agg #[.int .i64 s, .int .u64 g]]).run Try.prog W3 = .ok (.tuple #[]) W4 := fun _ => h2
  have HM4 := hide hm4
  have hbm := has_not_map HB3.out HM3.out
  have HB4 := hide (HB3.out.turned ht4 hbm)
  have T4 := hide (((Turned.of_below (S := fun k => k = mb) B3.out).trans ht4).wide (S2 := ListMay mb w) (fun k _ hk => by rw [hk]; exact may_map HM.out))
  have HC4 := hide (fun (k : Nat) (cs : Array Value) (hk : Has w k 60 cs) => (hk.below B3.out hk.lt).turned ht4 (has_not_map hk HM.out))
  have hN4 := hide (B3.out.mono hNw |>.trans (ht4.below (B := N) (Nat.le_trans hNw B3.out.size) (fun k hk => by rw [hk]; exact HNN.out.2.1)))
  have HK4 := hide (HC4.out _ _ HK.out)
  clear hm4 ht4 HM3 HB3 B3 hbm
  have k2 : W4.cell? ⟨k, 2, none⟩ = some (.pointer (some ⟨kn, 0, none⟩)) := HK4.out.cell 2
  have k3 : W4.cell? ⟨k, 3, none⟩ = some (.pointer (some ⟨kp, 0, none⟩)) := HK4.out.cell 3
  have c1 : W4.cell? ⟨b, 1, none⟩ = some (lp ks[0]?) := HB4.out.cell 1
  have c2 : W4.cell? ⟨b, 2, none⟩ = some (lp ks[ks.length - 1]?) := HB4.out.cell 2
  have f1 := HB4.out.free 1
  have f2 := HB4.out.free 2
  simp only [putAll, List.length_cons, List.length_nil, Nat.reduceAdd, List.drop_succ_cons, List.drop_zero]
  go_wp2_with fail
  clear k2 k3 c1 c2 f1 f2 h2
  have hbk := HB4.out.ne HK4.out (by decide)
  have hkb := Ne.symm hbk
  have P4 := hide (HC4.out _ _ HKP.out.2)
  have hbp := HB4.out.ne P4.out (by decide)
  have hpb := Ne.symm hbp
  have hpk := Ne.symm hkkp
  have Q4 := hide (HC4.out _ _ HKN.out.2)
  have hbn := HB4.out.ne Q4.out (by decide)
  have hnb := Ne.symm hbn
  have hnk := Ne.symm hkkn
  refine wp_region_fixed [33, 34, 35, 36, 37, 38, 39, 40, 41, 42]
    [.pointer (some ⟨k, 0, none⟩), .pointer (some ⟨k, 0, none⟩), .pointer (some ⟨k, 3, none⟩), .pointer (some ⟨kp, 0, none⟩), .pointer (some ⟨k, 0, none⟩), .pointer (some ⟨k, 0, none⟩), .pointer (some ⟨k, 2, none⟩), .pointer (some ⟨kn, 0, none⟩), .pointer (some ⟨kp, 0, none⟩), .pointer (some ⟨kp, 2, none⟩)] (by kernel_rfl) (by simp) rfl (by kernel_rfl) (by kernel_rfl) (by kernel_rfl) (by simp) (by decide) ?_ ?_
  · refine ⟨?_, ?_, ?_, ?_, ?_, ?_, ?_, ?_, ?_, ?_, trivial⟩
    · exact .inl ⟨.inl rfl, fun a' W hB hold he K hK => fx_move (.tmp 5) _ (.inl rfl) (hold 5 (by decide)) (hK _ (Below.refl _ _))⟩
    · exact .inl ⟨.inl rfl, fun a' W hB hold he K hK => fx_nil (.tmp 33) _ rfl (he ⟨0, .data⟩ (by simp) rfl) (hK _ (Below.refl _ _))⟩
    · exact .inl ⟨.inl rfl, fun a' W hB hold he K hK => fx_field 60 (.tmp 34) 2 _ _ rfl (he ⟨1, .data⟩ (by simp) rfl) (by kernel_rfl) (hK _ (Below.refl _ _))⟩
    · exact .inl ⟨.inl rfl, fun a' W hB hold he K hK => wp_step_load 56 (.tmp 35) _ rfl _ (he ⟨2, .data⟩ (by simp) rfl) (load_end W _ _ _ ((HK4.out.below hB HK4.out.lt).cell 3)) (hK _ (Below.refl _ _))⟩
    · exact .inl ⟨.inl rfl, fun a' W hB hold he K hK => fx_move (.tmp 5) _ (.inl rfl) (hold 5 (by decide)) (hK _ (Below.refl _ _))⟩
    · exact .inl ⟨.inl rfl, fun a' W hB hold he K hK => fx_nil (.tmp 37) _ rfl (he ⟨4, .data⟩ (by simp) rfl) (hK _ (Below.refl _ _))⟩
    · exact .inl ⟨.inl rfl, fun a' W hB hold he K hK => fx_field 60 (.tmp 38) 1 _ _ rfl (he ⟨5, .data⟩ (by simp) rfl) (by kernel_rfl) (hK _ (Below.refl _ _))⟩
    · exact .inl ⟨.inl rfl, fun a' W hB hold he K hK => wp_step_load 56 (.tmp 39) _ rfl _ (he ⟨6, .data⟩ (by simp) rfl) (load_end W _ _ _ ((HK4.out.below hB HK4.out.lt).cell 2)) (hK _ (Below.refl _ _))⟩
    · exact .inl ⟨.inl rfl, fun a' W hB hold he K hK => fx_nil (.tmp 36) _ rfl (he ⟨3, .data⟩ (by simp) rfl) (hK _ (Below.refl _ _))⟩
    · exact .inl ⟨.inl rfl, fun a' W hB hold he K hK => fx_field 60 (.tmp 41) 1 _ _ rfl (he ⟨8, .data⟩ (by simp) rfl) (by kernel_rfl) (hK _ (Below.refl _ _))⟩
  intro W5 hb
  have HB5 := hide (HB4.out.below hb HB4.out.lt)
  have HK5 := hide (HK4.out.below hb HK4.out.lt)
  have P5 := hide (P4.out.below hb P4.out.lt)
  have Q5 := hide (Q4.out.below hb Q4.out.lt)
  have HM5 := hide (HM4.out.kept (hb.block _ HM4.out.lt))
  have T5 := hide (T4.out.trans (Turned.of_below hb))
  have hN5 := hide (hN4.out.trans (hb.mono (Nat.le_trans hNw T4.out.size)))
  have HC5 := hide (fun (j k' : Nat) (h0 : ks[j]? = some k') (h1 : k' ≠ kp) (h2 : k' ≠ kn) (cs : Array Value) (hk : Has w k' 60 cs) => (HC4.out _ _ hk).below hb (HC4.out _ _ hk).lt)
  clear hb
  simp only [putAll, List.length_cons, List.length_nil, Nat.reduceAdd, List.drop_succ_cons, List.drop_zero]
  have k2 : W5.cell? ⟨k, 2, none⟩ = some (.pointer (some ⟨kn, 0, none⟩)) := HK5.out.cell 2
  have k3 : W5.cell? ⟨k, 3, none⟩ = some (.pointer (some ⟨kp, 0, none⟩)) := HK5.out.cell 3
  have c1 : W5.cell? ⟨b, 1, none⟩ = some (lp ks[0]?) := HB5.out.cell 1
  have c2 : W5.cell? ⟨b, 2, none⟩ = some (lp ks[ks.length - 1]?) := HB5.out.cell 2
  have f1 := HB5.out.free 1
  have f2 := HB5.out.free 2
  have p2 : W5.cell? ⟨kp, 2, none⟩ = some (lp ks[i - 1 + 1]?) := P5.out.cell 2
  have g2 := P5.out.free 2
  have n3 : W5.cell? ⟨kn, 3, none⟩ = some (lp (ahead ks (i + 1))) := Q5.out.cell 3
  have g3 := Q5.out.free 3
  go_wp2_with fail
  clear k2 k3 c1 c2 f1 f2 p2 g2 n3 g3
  obtain ⟨W6, hW⟩ : ∃ W, W = (W5.setCell ⟨kp, 2, none⟩ (.pointer (some ⟨kn, 0, none⟩))) := ⟨_, rfl⟩
  have HB6 : Hid (Has W6 b 58 #[.map (some mb), lp ks[0]?, lp ks[ks.length - 1]?]) := by rw [hW]; exact hide (HB5.out.far (p := ⟨kp, 2, none⟩) hbp (.pointer (some ⟨kn, 0, none⟩)))
  have HK6 : Hid (Has W6 k 60 #[.int .i64 s, .int .u64 g, .pointer (some ⟨kn, 0, none⟩), .pointer (some ⟨kp, 0, none⟩)]) := by rw [hW]; exact hide (HK5.out.far (p := ⟨kp, 2, none⟩) hkkp (.pointer (some ⟨kn, 0, none⟩)))
  have P6 : Hid (Has W6 kp 60 #[.int .i64 qp.1, .int .u64 qp.2, .pointer (some ⟨kn, 0, none⟩), lp (ahead ks (i - 1))]) := by rw [hW]; exact hide (P5.out.set 2 (.pointer (some ⟨kn, 0, none⟩)))
  have Q6 : Hid (Has W6 kn 60 #[.int .i64 qn.1, .int .u64 qn.2, lp ks[i + 1 + 1]?, lp (ahead ks (i + 1))]) := by rw [hW]; exact hide (Q5.out.far (p := ⟨kp, 2, none⟩) hknp (.pointer (some ⟨kn, 0, none⟩)))
  have HM6 : Hid (MapIs W6 mb hKey hOk (mdel m (s, g))) := by rw [hW]; exact hide (HM5.out.set _ _)
  have hN6 : Hid (Below N w W6) := by rw [hW]; exact hide (hN5.out.setCell (p := ⟨kp, 2, none⟩) HKP.out.1 _)
  have T6 : Hid (Turned (ListMay mb w) w W6) := by rw [hW]; exact hide (T5.out.set (p := ⟨kp, 2, none⟩) (fun _ => may_link HKP.out.2) _)
  have HC6 : Hid (∀ (j k' : Nat), ks[j]? = some k' → k' ≠ kp → k' ≠ kn → ∀ (cs : Array Value), Has w k' 60 cs → Has W6 k' 60 cs) := by rw [hW]; exact hide (fun j k' h0 h1 h2 cs hk => ((HC5.out j k' h0 h1 h2 _ hk).far (p := ⟨kp, 2, none⟩) h1 _))
  rw [← hW]
  clear hW
  refine wp_region_fixed [55, 56, 57, 58, 59, 60, 61, 62, 63, 64]
    [.pointer (some ⟨k, 0, none⟩), .pointer (some ⟨k, 0, none⟩), .pointer (some ⟨k, 2, none⟩), .pointer (some ⟨kn, 0, none⟩), .pointer (some ⟨k, 0, none⟩), .pointer (some ⟨k, 0, none⟩), .pointer (some ⟨k, 3, none⟩), .pointer (some ⟨kp, 0, none⟩), .pointer (some ⟨kn, 0, none⟩), .pointer (some ⟨kn, 3, none⟩)] (by kernel_rfl) (by simp) rfl (by kernel_rfl) (by kernel_rfl) (by kernel_rfl) (by simp) (by decide) ?_ ?_
  · refine ⟨?_, ?_, ?_, ?_, ?_, ?_, ?_, ?_, ?_, ?_, trivial⟩
    · exact .inl ⟨.inl rfl, fun a' W hB hold he K hK => fx_move (.tmp 5) _ (.inl rfl) (hold 5 (by decide)) (hK _ (Below.refl _ _))⟩
    · exact .inl ⟨.inl rfl, fun a' W hB hold he K hK => fx_nil (.tmp 55) _ rfl (he ⟨0, .data⟩ (by simp) rfl) (hK _ (Below.refl _ _))⟩
    · exact .inl ⟨.inl rfl, fun a' W hB hold he K hK => fx_field 60 (.tmp 56) 1 _ _ rfl (he ⟨1, .data⟩ (by simp) rfl) (by kernel_rfl) (hK _ (Below.refl _ _))⟩
    · exact .inl ⟨.inl rfl, fun a' W hB hold he K hK => wp_step_load 56 (.tmp 57) _ rfl _ (he ⟨2, .data⟩ (by simp) rfl) (load_end W _ _ _ ((HK6.out.below hB HK6.out.lt).cell 2)) (hK _ (Below.refl _ _))⟩
    · exact .inl ⟨.inl rfl, fun a' W hB hold he K hK => fx_move (.tmp 5) _ (.inl rfl) (hold 5 (by decide)) (hK _ (Below.refl _ _))⟩
    · exact .inl ⟨.inl rfl, fun a' W hB hold he K hK => fx_nil (.tmp 59) _ rfl (he ⟨4, .data⟩ (by simp) rfl) (hK _ (Below.refl _ _))⟩
    · exact .inl ⟨.inl rfl, fun a' W hB hold he K hK => fx_field 60 (.tmp 60) 2 _ _ rfl (he ⟨5, .data⟩ (by simp) rfl) (by kernel_rfl) (hK _ (Below.refl _ _))⟩
    · exact .inl ⟨.inl rfl, fun a' W hB hold he K hK => wp_step_load 56 (.tmp 61) _ rfl _ (he ⟨6, .data⟩ (by simp) rfl) (load_end W _ _ _ ((HK6.out.below hB HK6.out.lt).cell 3)) (hK _ (Below.refl _ _))⟩
    · exact .inl ⟨.inl rfl, fun a' W hB hold he K hK => fx_nil (.tmp 58) _ rfl (he ⟨3, .data⟩ (by simp) rfl) (hK _ (Below.refl _ _))⟩
    · exact .inl ⟨.inl rfl, fun a' W hB hold he K hK => fx_field 60 (.tmp 63) 2 _ _ rfl (he ⟨8, .data⟩ (by simp) rfl) (by kernel_rfl) (hK _ (Below.refl _ _))⟩
  intro W7 hb
  have HB7 := hide (HB6.out.below hb HB6.out.lt)
  have HK7 := hide (HK6.out.below hb HK6.out.lt)
  have P7 := hide (P6.out.below hb P6.out.lt)
  have Q7 := hide (Q6.out.below hb Q6.out.lt)
  have HM7 := hide (HM6.out.kept (hb.block _ HM6.out.lt))
  have T7 := hide (T6.out.trans (Turned.of_below hb))
  have hN7 := hide (hN6.out.trans (hb.mono (Nat.le_trans hNw T6.out.size)))
  have HC7 := hide (fun (j k' : Nat) (h0 : ks[j]? = some k') (h1 : k' ≠ kp) (h2 : k' ≠ kn) (cs : Array Value) (hk : Has w k' 60 cs) => (HC6.out j k' h0 h1 h2 _ hk).below hb (HC6.out j k' h0 h1 h2 _ hk).lt)
  clear hb
  simp only [putAll, List.length_cons, List.length_nil, Nat.reduceAdd, List.drop_succ_cons, List.drop_zero]
  have k2 : W7.cell? ⟨k, 2, none⟩ = some (.pointer (some ⟨kn, 0, none⟩)) := HK7.out.cell 2
  have k3 : W7.cell? ⟨k, 3, none⟩ = some (.pointer (some ⟨kp, 0, none⟩)) := HK7.out.cell 3
  have c1 : W7.cell? ⟨b, 1, none⟩ = some (lp ks[0]?) := HB7.out.cell 1
  have c2 : W7.cell? ⟨b, 2, none⟩ = some (lp ks[ks.length - 1]?) := HB7.out.cell 2
  have f1 := HB7.out.free 1
  have f2 := HB7.out.free 2
  have p2 : W7.cell? ⟨kp, 2, none⟩ = some (.pointer (some ⟨kn, 0, none⟩)) := P7.out.cell 2
  have g2 := P7.out.free 2
  have n3 : W7.cell? ⟨kn, 3, none⟩ = some (lp (ahead ks (i + 1))) := Q7.out.cell 3
  have g3 := Q7.out.free 3
  go_wp2_with fail
  clear k2 k3 c1 c2 f1 f2 p2 g2 n3 g3
  go_returns
  have hB := (HB7.out.far (p := ⟨kn, 3, none⟩) hbn (.pointer (some ⟨kp, 0, none⟩)))
  have hP := (P7.out.far (p := ⟨kn, 3, none⟩) hkpn (.pointer (some ⟨kp, 0, none⟩)))
  have hQ := (Q7.out.set 3 (.pointer (some ⟨kp, 0, none⟩)))
  have hC : ∀ (j k' : Nat), ks[j]? = some k' → k' ≠ kp → k' ≠ kn → ∀ (cs : Array Value), Has w k' 60 cs → Has (W7.setCell ⟨kn, 3, none⟩ (.pointer (some ⟨kp, 0, none⟩))) k' 60 cs := fun j k' h0 h1 h2 cs hk => ((HC7.out j k' h0 h1 h2 _ hk).far (p := ⟨kn, 3, none⟩) h2 _)
  have hnd := HC.out.2.1
  obtain ⟨i1, i2, i3, i4⟩ := HI.out
  obtain ⟨e1, e2, e3, e4⟩ := HE.out
  obtain ⟨p1, p2⟩ := HP.out
  obtain ⟨n1, n2⟩ := HQ.out
  have hCh := chain_del HC.out i3 (fun k' h hj hk hh => by rw [p1] at hk; rw [p2] at hh; cases hk; cases hh; rw [n1]; exact hP) (fun k' h hk hh => by rw [n1] at hk; rw [n2] at hh; cases hk; cases hh; rw [e1]; exact hQ) (fun j k' h1 h2 h3 hk cs hc => hC j k' hk (ks_apart hnd hk p1 (by omega)) (ks_apart hnd hk n1 (by omega)) cs hc)
  have hends : lp (ks.eraseIdx i)[0]? = lp ks[0]? ∧ lp (ks.eraseIdx i)[(ks.eraseIdx i).length - 1]? = lp ks[ks.length - 1]? := by
    have hl : (ks.eraseIdx i).length = ks.length - 1 := by rw [List.length_eraseIdx, if_pos (by omega)]
    refine ⟨?_, ?_⟩
    · rw [List.getElem?_eraseIdx, if_pos (by omega)]
    · rw [hl, List.getElem?_eraseIdx, if_neg (by omega), show ks.length - 1 - 1 + 1 = ks.length - 1 by omega]
  refine ⟨rfl, ⟨ks.eraseIdx i, _, HNN.out.1, HNN.out.2.1, (by rw [hends.1, hends.2]; exact hB), hCh, HN.out.sublist (List.eraseIdx_sublist _ _), fun h hh => HO.out h ((List.eraseIdx_sublist _ _).subset hh), (HM7.out.set _ _), HG.out.1, HG.out.2⟩, (hN7.out.setCell (p := ⟨kn, 3, none⟩) HKN.out.1 _), (T7.out.set (p := ⟨kn, 3, none⟩) (fun _ => may_link HKN.out.2) _)⟩

theorem list_remove (N : Nat) (w : World) (b mb : Nat) (hs : List (Int × Int)) (h : ListIs N w b mb hs) (p : Int × Int) (hok : hOk p) :
    Calls Try.prog 22 #[.pointer (some ⟨b, 0, none⟩), .agg #[.int .i64 p.1, .int .u64 p.2]] w (ListTo N w b mb (removed hs p) (.bool (hAt hs p).isSome)) := by
  unfold removed
  cases hi : hAt hs p with
  | none => exact list_remove_absent N w b mb hs h p hok hi
  | some i =>
    have hlt := (List.getElem?_eq_some_iff.1 (hAt_some hi)).1
    by_cases h0 : 0 < i
    · by_cases h1 : i + 1 < hs.length
      · exact list_remove_11 N w b mb hs h p hok i hi h0 h1
      · exact list_remove_10 N w b mb hs h p hok i hi h0 (by omega)
    · by_cases h1 : i + 1 < hs.length
      · exact list_remove_01 N w b mb hs h p hok i hi (by omega) h1
      · exact list_remove_00 N w b mb hs h p hok i hi (by omega) (by omega)

end Go.Proofs.Ytagminbfboncoaa
