import Derived.Test.YtagminbfboncoaaListC
import Derived.Test.YtagminbfboncoaaGrowW
/-! Package list: Next. -/
namespace Go.Proofs.Ytagminbfboncoaa
open Go.RowKit Go.Maps
set_option maxHeartbeats 2000000
set_option maxRecDepth 100000
set_option linter.unusedSimpArgs false
set_option linter.unusedVariables false

/-- The handle behind a handle. -/
def nextOf (hs : List (Int × Int)) (p : Int × Int) : Option (Int × Int) := (hAt hs p).bind fun i => hs[i + 1]?

theorem load_h (W : World) (b : Nat) (c0 c1 : Value) (h : Has W b 29 #[c0, c1]) : (Instr.loadAt 29 (.pointer (some ⟨b, 0, none⟩))).run Try.prog W = .ok (.agg #[c0, c1]) W := by
  have g0 : W.cell? ⟨b, 0, none⟩ = some c0 := h.cell 0
  have g1 : W.cell? ⟨b, 1, none⟩ = some c1 := h.cell 1
  clear h
  go_simp

theorem load_hk (W : World) (k : Nat) (c0 c1 c2 c3 : Value) (h : Has W k 60 #[c0, c1, c2, c3]) : (Instr.loadAt 29 (.pointer (some ⟨k, 0, none⟩))).run Try.prog W = .ok (.agg #[c0, c1]) W := by
  have g0 : W.cell? ⟨k, 0, none⟩ = some c0 := h.cell 0
  have g1 : W.cell? ⟨k, 1, none⟩ = some c1 := h.cell 1
  clear h
  go_simp

theorem load_all (W : World) (b : Nat) (c0 c1 c2 : Value) (h : Has W b 58 #[c0, c1, c2]) : (Instr.loadAt 55 (.pointer (some ⟨b, 0, none⟩))).run Try.prog W = .ok c0 W := by
  have g0 : W.cell? ⟨b, 0, none⟩ = some c0 := h.cell 0
  clear h
  go_simp

theorem load_end (W : World) (b i : Nat) (c : Value) (g0 : W.cell? ⟨b, i, none⟩ = some c) : (Instr.loadAt 56 (.pointer (some ⟨b, i, none⟩))).run Try.prog W = .ok c W := by
  go_simp

theorem list_next_none (N : Nat) (w : World) (b mb : Nat) (hs : List (Int × Int)) (h : ListIs N w b mb hs) (p : Int × Int) (hok : hOk p) (hn : hAt hs p = none) :
    Calls Try.prog 20 #[.pointer (some ⟨b, 0, none⟩), .agg #[.int .i64 p.1, .int .u64 p.2]] w fun e w' => e = .returned (.tuple #[hv (0, 0), .bool false]) ∧ Below w.heap.size w w' := by
  have HC := hide (fun W (h : ListIs N W b mb hs) => list_has N W b mb hs h p hok)
  have HL := hide h
  rw [hn] at HC
  obtain ⟨s, g⟩ := p
  clear h hn
  simp only [hv, Option.isSome] at HC ⊢
  go_enter Try.func20, Try.ntmps20
  go_wp2_with fail
  obtain ⟨W0, hW0⟩ : ∃ W0, W0 = (w.alloc (.cells #[.int .i64 s, .int .u64 g] 29)).alloc (.cells #[.int .i64 0, .int .u64 0] 29) := ⟨_, rfl⟩
  have B0 : Hid (Below w.heap.size w W0) := by rw [hW0]; exact hide (by go_grown)
  have HX : Hid (Has W0 w.heap.size 29 #[.int .i64 s, .int .u64 g]) := by rw [hW0]; exact hide ((Has.new w _ _).alloc _)
  have HZ : Hid (Has W0 (w.heap.size + 1) 29 #[.int .i64 0, .int .u64 0]) := by rw [hW0]; exact hide (Has.last _ _ _ (by simp))
  rw [← hW0]
  replace HL := hide (HL.out.below B0.out)
  clear hW0
  refine wp_region_fixed [6, 7, 8, 9, 10, 11, 12, 13, 14, 15, 16, 17, 18, 19, 20]
    [.pointer (some ⟨b, 0, none⟩), .agg #[.int .i64 s, .int .u64 g], .bool false, .bool true, .bool true, undef, undef, undef, undef, undef, undef, undef, undef, undef, undef] (by kernel_rfl) (by simp) rfl (by kernel_rfl) (by kernel_rfl) (by kernel_rfl) (by simp) (by decide) ?_ ?_
  · refine ⟨?_, ?_, ?_, ?_, ?_, ?_, ?_, ?_, ?_, ?_, ?_, ?_, ?_, ?_, ?_, trivial⟩
    · exact .inl ⟨.inl rfl, fun a' W hB hold he K hK => fx_move (.tmp 0) _ (.inl rfl) (hold 0 (by decide)) (hK _ (Below.refl _ _))⟩
    · exact .inl ⟨.inl rfl, fun a' W hB hold he K hK => wp_step_load 29 (.tmp 3) _ rfl _ (hold 3 (by decide)) (load_h W _ _ _ (HX.out.below hB HX.out.lt)) (hK _ (Below.refl _ _))⟩
    · exact .inl ⟨.inl rfl, fun a' W hB hold he K hK => (by have h0 : a'.eval (.tmp 6) = _ := (he ⟨0, .data⟩ (by simp) rfl); have h1 : a'.eval (.tmp 7) = _ := (he ⟨1, .data⟩ (by simp) rfl); exact wp_step_call 9 #[_, _] (by simp only [execOp, h0, h1]; simp [go_sem] <;> simp_all [Act.eval]) ((HC.out W (HL.out.below hB)).mono (by rintro e1 w' ⟨rfl, hb⟩; exact ⟨_, rfl, hK _ hb⟩)))⟩
    · exact .inl ⟨.inl rfl, fun a' W hB hold he K hK => fx_not 4 (.tmp 8) _ rfl (he ⟨2, .data⟩ (by simp) rfl) (hK _ (Below.refl _ _))⟩
    · exact .inl ⟨.inl rfl, fun a' W hB hold he K hK => fx_move (.tmp 9) _ (.inl rfl) (he ⟨3, .data⟩ (by simp) rfl) (hK _ (Below.refl _ _))⟩
    · exact .inr ⟨rfl, rfl, 4, false, _, rfl, ⟨⟨4, .guard⟩, by simp, rfl, rfl⟩, rfl, rfl, by decide, by intro h; cases h⟩
    · exact .inr ⟨rfl, rfl, 4, false, _, rfl, ⟨⟨4, .guard⟩, by simp, rfl, rfl⟩, rfl, rfl, by decide, by intro h; cases h⟩
    · exact .inr ⟨rfl, rfl, 4, false, _, rfl, ⟨⟨4, .guard⟩, by simp, rfl, rfl⟩, rfl, rfl, by decide, by intro h; cases h⟩
    · exact .inr ⟨rfl, rfl, 4, false, _, rfl, ⟨⟨4, .guard⟩, by simp, rfl, rfl⟩, rfl, rfl, by decide, by intro h; cases h⟩
    · exact .inr ⟨rfl, rfl, 4, false, _, rfl, ⟨⟨4, .guard⟩, by simp, rfl, rfl⟩, rfl, rfl, by decide, by intro h; cases h⟩
    · exact .inr ⟨rfl, rfl, 4, false, _, rfl, ⟨⟨4, .guard⟩, by simp, rfl, rfl⟩, rfl, rfl, by decide, by intro h; cases h⟩
    · exact .inr ⟨rfl, rfl, 4, false, _, rfl, ⟨⟨4, .guard⟩, by simp, rfl, rfl⟩, rfl, rfl, by decide, by intro h; cases h⟩
    · exact .inr ⟨rfl, rfl, 4, false, _, rfl, ⟨⟨4, .guard⟩, by simp, rfl, rfl⟩, rfl, rfl, by decide, by intro h; cases h⟩
    · exact .inr ⟨rfl, rfl, 4, false, _, rfl, ⟨⟨4, .guard⟩, by simp, rfl, rfl⟩, rfl, rfl, by decide, by intro h; cases h⟩
    · exact .inr ⟨rfl, rfl, 4, false, _, rfl, ⟨⟨4, .guard⟩, by simp, rfl, rfl⟩, rfl, rfl, by decide, by intro h; cases h⟩
  intro W1 hb
  have B1 := hide (below_on B0.out hb)
  have Z1 := hide (HZ.out.below hb HZ.out.lt)
  clear hb
  simp only [putAll, List.length_cons, List.length_nil, Nat.reduceAdd, List.drop_succ_cons, List.drop_zero]
  have z0 : W1.cell? ⟨w.heap.size + 1, 0, none⟩ = some (.int .i64 0) := Z1.out.cell 0
  have z1 : W1.cell? ⟨w.heap.size + 1, 1, none⟩ = some (.int .u64 0) := Z1.out.cell 1
  have y0 := Z1.out.free 0
  have y1 := Z1.out.free 1
  go_wp2_with fail
  refine bodyPost_ret (by simp [results, Try.results20, go_sem, z0, z1]; rfl) rfl ?_
  exact ⟨rfl, (B1.out.setCell (p := ⟨w.heap.size + 1, 0, none⟩) (by simp) _).setCell (p := ⟨w.heap.size + 1, 1, none⟩) (by simp) _⟩

theorem list_next_last (N : Nat) (w : World) (b mb : Nat) (hs : List (Int × Int)) (h : ListIs N w b mb hs) (p : Int × Int) (hok : hOk p) (i : Nat) (hi : hAt hs p = some i) (hn : hs[i + 1]? = none) :
    Calls Try.prog 20 #[.pointer (some ⟨b, 0, none⟩), .agg #[.int .i64 p.1, .int .u64 p.2]] w fun e w' => e = .returned (.tuple #[hv (0, 0), .bool false]) ∧ Below w.heap.size w w' := by
  have HC := hide (fun W (h : ListIs N W b mb hs) => list_has N W b mb hs h p hok)
  have HL := hide h
  obtain ⟨ks, m, hNb, hNm, hb0, hc, hnd, hoks, hm, hml, hg⟩ := h
  have HR := hide (fun W (hm : MapIs W mb hKey hOk m) => list_get hm hg p hok)
  have hlt : i < hs.length := (List.getElem?_eq_some_iff.1 (hAt_some hi)).1
  obtain ⟨k, hk⟩ : ∃ k, ks[i]? = some k := ⟨_, List.getElem?_eq_getElem (by rw [hc.1]; exact hlt)⟩
  have hlk : linkOf hs ks p = some k := by unfold linkOf; rw [hi]; exact hk
  obtain ⟨_, hl⟩ := hc.2.2 i p k (hAt_some hi) hk
  rw [hi] at HC
  rw [hlk] at HR
  have HM := hide hm
  have HK := hide hl
  have HB := hide hb0
  have hk1 : ks[i + 1]? = none := by
    rw [List.getElem?_eq_none_iff] at hn ⊢
    rw [hc.1]
    exact hn
  rw [hk1] at HK
  obtain ⟨s, g⟩ := p
  clear hn hi hlt hk hlk hl hk1 hc hm hg hb0
  simp only [hv, Option.isSome, lp, Option.map] at HC HR HK ⊢
  go_enter Try.func20, Try.ntmps20
  go_wp2_with fail
  obtain ⟨W0, hW0⟩ : ∃ W0, W0 = (w.alloc (.cells #[.int .i64 s, .int .u64 g] 29)).alloc (.cells #[.int .i64 0, .int .u64 0] 29) := ⟨_, rfl⟩
  have B0 : Hid (Below w.heap.size w W0) := by rw [hW0]; exact hide (by go_grown)
  have HX : Hid (Has W0 w.heap.size 29 #[.int .i64 s, .int .u64 g]) := by rw [hW0]; exact hide ((Has.new w _ _).alloc _)
  have HZ : Hid (Has W0 (w.heap.size + 1) 29 #[.int .i64 0, .int .u64 0]) := by rw [hW0]; exact hide (Has.last _ _ _ (by simp))
  rw [← hW0]
  replace HL := hide (HL.out.below B0.out)
  clear hW0
  replace HM := hide (HM.out.kept (B0.out.block _ HM.out.lt))
  replace HK := hide (HK.out.below B0.out HK.out.lt)
  replace HB := hide (HB.out.below B0.out HB.out.lt)
  refine wp_region_fixed [6, 7, 8, 9, 10, 11, 12, 13, 14, 15, 16, 17, 18, 19, 20]
    [.pointer (some ⟨b, 0, none⟩), .agg #[.int .i64 s, .int .u64 g], .bool true, .bool false, .bool false, .pointer (some ⟨b, 0, none⟩), .pointer (some ⟨b, 0, none⟩), .pointer (some ⟨b, 0, none⟩), .map (some mb), .agg #[.int .i64 s, .int .u64 g], .pointer (some ⟨k, 0, none⟩), .pointer (some ⟨k, 0, none⟩), .pointer (some ⟨k, 2, none⟩), .pointer none, .bool true] (by kernel_rfl) (by simp) rfl (by kernel_rfl) (by kernel_rfl) (by kernel_rfl) (by simp) (by decide) ?_ ?_
  · refine ⟨?_, ?_, ?_, ?_, ?_, ?_, ?_, ?_, ?_, ?_, ?_, ?_, ?_, ?_, ?_, trivial⟩
    · exact .inl ⟨.inl rfl, fun a' W hB hold he K hK => fx_move (.tmp 0) _ (.inl rfl) (hold 0 (by decide)) (hK _ (Below.refl _ _))⟩
    · exact .inl ⟨.inl rfl, fun a' W hB hold he K hK => wp_step_load 29 (.tmp 3) _ rfl _ (hold 3 (by decide)) (load_h W _ _ _ (HX.out.below hB HX.out.lt)) (hK _ (Below.refl _ _))⟩
    · exact .inl ⟨.inl rfl, fun a' W hB hold he K hK => (by have h0 : a'.eval (.tmp 6) = _ := (he ⟨0, .data⟩ (by simp) rfl); have h1 : a'.eval (.tmp 7) = _ := (he ⟨1, .data⟩ (by simp) rfl); exact wp_step_call 9 #[_, _] (by simp only [execOp, h0, h1]; simp [go_sem] <;> simp_all [Act.eval]) ((HC.out W (HL.out.below hB)).mono (by rintro e1 w' ⟨rfl, hb⟩; exact ⟨_, rfl, hK _ hb⟩)))⟩
    · exact .inl ⟨.inl rfl, fun a' W hB hold he K hK => fx_not 4 (.tmp 8) _ rfl (he ⟨2, .data⟩ (by simp) rfl) (hK _ (Below.refl _ _))⟩
    · exact .inl ⟨.inl rfl, fun a' W hB hold he K hK => fx_move (.tmp 9) _ (.inl rfl) (he ⟨3, .data⟩ (by simp) rfl) (hK _ (Below.refl _ _))⟩
    · exact .inl ⟨.inr ⟨4, false, _, rfl, ⟨⟨4, .guard⟩, by simp, rfl, rfl⟩, rfl, rfl, by decide, rfl⟩, fun a' W hB hold he K hK => fx_move (.tmp 0) _ (.inl rfl) (hold 0 (by decide)) (hK _ (Below.refl _ _))⟩
    · exact .inl ⟨.inr ⟨4, false, _, rfl, ⟨⟨4, .guard⟩, by simp, rfl, rfl⟩, rfl, rfl, by decide, rfl⟩, fun a' W hB hold he K hK => fx_nil (.tmp 11) _ rfl (he ⟨5, .data⟩ (by simp) rfl) (hK _ (Below.refl _ _))⟩
    · exact .inl ⟨.inr ⟨4, false, _, rfl, ⟨⟨4, .guard⟩, by simp, rfl, rfl⟩, rfl, rfl, by decide, rfl⟩, fun a' W hB hold he K hK => fx_field 58 (.tmp 12) 0 _ _ rfl (he ⟨6, .data⟩ (by simp) rfl) (by kernel_rfl) (hK _ (Below.refl _ _))⟩
    · exact .inl ⟨.inr ⟨4, false, _, rfl, ⟨⟨4, .guard⟩, by simp, rfl, rfl⟩, rfl, rfl, by decide, rfl⟩, fun a' W hB hold he K hK => wp_step_load 55 (.tmp 13) _ rfl _ (he ⟨7, .data⟩ (by simp) rfl) (load_all W _ _ _ _ (HB.out.below hB HB.out.lt)) (hK _ (Below.refl _ _))⟩
    · exact .inl ⟨.inr ⟨4, false, _, rfl, ⟨⟨4, .guard⟩, by simp, rfl, rfl⟩, rfl, rfl, by decide, rfl⟩, fun a' W hB hold he K hK => wp_step_load 29 (.tmp 3) _ rfl _ (hold 3 (by decide)) (load_h W _ _ _ (HX.out.below hB HX.out.lt)) (hK _ (Below.refl _ _))⟩
    · exact .inl ⟨.inr ⟨4, false, _, rfl, ⟨⟨4, .guard⟩, by simp, rfl, rfl⟩, rfl, rfl, by decide, rfl⟩, fun a' W hB hold he K hK => fx_lookup 55 (.tmp 14) (.tmp 15) false _ _ _ rfl (he ⟨8, .data⟩ (by simp) rfl) (he ⟨9, .data⟩ (by simp) rfl) (HR.out W (HM.out.kept (hB.block _ HM.out.lt))) (hK _ (Below.refl _ _))⟩
    · exact .inl ⟨.inr ⟨4, false, _, rfl, ⟨⟨4, .guard⟩, by simp, rfl, rfl⟩, rfl, rfl, by decide, rfl⟩, fun a' W hB hold he K hK => fx_nil (.tmp 16) _ rfl (he ⟨10, .data⟩ (by simp) rfl) (hK _ (Below.refl _ _))⟩
    · exact .inl ⟨.inr ⟨4, false, _, rfl, ⟨⟨4, .guard⟩, by simp, rfl, rfl⟩, rfl, rfl, by decide, rfl⟩, fun a' W hB hold he K hK => fx_field 60 (.tmp 17) 1 _ _ rfl (he ⟨11, .data⟩ (by simp) rfl) (by kernel_rfl) (hK _ (Below.refl _ _))⟩
    · exact .inl ⟨.inr ⟨4, false, _, rfl, ⟨⟨4, .guard⟩, by simp, rfl, rfl⟩, rfl, rfl, by decide, rfl⟩, fun a' W hB hold he K hK => wp_step_load 56 (.tmp 18) _ rfl _ (he ⟨12, .data⟩ (by simp) rfl) (load_end W _ _ _ ((HK.out.below hB HK.out.lt).cell 2)) (hK _ (Below.refl _ _))⟩
    · exact .inl ⟨.inr ⟨4, false, _, rfl, ⟨⟨4, .guard⟩, by simp, rfl, rfl⟩, rfl, rfl, by decide, rfl⟩, fun a' W hB hold he K hK => fx_bin .eql 56 56 (.tmp 19) (.const (.pointer none)) _ _ _ rfl (he ⟨13, .data⟩ (by simp) rfl) rfl (by kernel_rfl) (by kernel_rfl) (hK _ (Below.refl _ _))⟩
  intro W1 hb
  have B1 := hide (below_on B0.out hb)
  have Z1 := hide (HZ.out.below hb HZ.out.lt)
  clear hb
  simp only [putAll, List.length_cons, List.length_nil, Nat.reduceAdd, List.drop_succ_cons, List.drop_zero]
  have z0 : W1.cell? ⟨w.heap.size + 1, 0, none⟩ = some (.int .i64 0) := Z1.out.cell 0
  have z1 : W1.cell? ⟨w.heap.size + 1, 1, none⟩ = some (.int .u64 0) := Z1.out.cell 1
  have y0 := Z1.out.free 0
  have y1 := Z1.out.free 1
  go_wp2_with fail
  refine bodyPost_ret (by simp [results, Try.results20, go_sem, z0, z1]; rfl) rfl ?_
  exact ⟨rfl, (B1.out.setCell (p := ⟨w.heap.size + 1, 0, none⟩) (by simp) _).setCell (p := ⟨w.heap.size + 1, 1, none⟩) (by simp) _⟩

theorem list_next_some (N : Nat) (w : World) (b mb : Nat) (hs : List (Int × Int)) (h : ListIs N w b mb hs) (p : Int × Int) (hok : hOk p) (i : Nat) (hi : hAt hs p = some i) (q : Int × Int) (hn : hs[i + 1]? = some q) :
    Calls Try.prog 20 #[.pointer (some ⟨b, 0, none⟩), .agg #[.int .i64 p.1, .int .u64 p.2]] w fun e w' => e = .returned (.tuple #[hv q, .bool true]) ∧ Below w.heap.size w w' := by
  have HC := hide (fun W (h : ListIs N W b mb hs) => list_has N W b mb hs h p hok)
  have HL := hide h
  obtain ⟨ks, m, hNb, hNm, hb0, hc, hnd, hoks, hm, hml, hg⟩ := h
  have HR := hide (fun W (hm : MapIs W mb hKey hOk m) => list_get hm hg p hok)
  have hlt : i < hs.length := (List.getElem?_eq_some_iff.1 (hAt_some hi)).1
  obtain ⟨k, hk⟩ : ∃ k, ks[i]? = some k := ⟨_, List.getElem?_eq_getElem (by rw [hc.1]; exact hlt)⟩
  have hlk : linkOf hs ks p = some k := by unfold linkOf; rw [hi]; exact hk
  obtain ⟨_, hl⟩ := hc.2.2 i p k (hAt_some hi) hk
  rw [hi] at HC
  rw [hlk] at HR
  have HM := hide hm
  have HK := hide hl
  have HB := hide hb0
  obtain ⟨k1, hk1⟩ : ∃ k1, ks[i + 1]? = some k1 := ⟨_, List.getElem?_eq_getElem (by rw [hc.1]; exact (List.getElem?_eq_some_iff.1 hn).1)⟩
  obtain ⟨_, hl1⟩ := hc.2.2 (i + 1) q k1 hn hk1
  rw [hk1] at HK
  have HK1 := hide hl1
  obtain ⟨s1, g1⟩ := q
  clear hl1
  obtain ⟨s, g⟩ := p
  clear hn hi hlt hk hlk hl hk1 hc hm hg hb0
  simp only [hv, Option.isSome, lp, Option.map] at HC HR HK ⊢
  go_enter Try.func20, Try.ntmps20
  go_wp2_with fail
  obtain ⟨W0, hW0⟩ : ∃ W0, W0 = (w.alloc (.cells #[.int .i64 s, .int .u64 g] 29)).alloc (.cells #[.int .i64 0, .int .u64 0] 29) := ⟨_, rfl⟩
  have B0 : Hid (Below w.heap.size w W0) := by rw [hW0]; exact hide (by go_grown)
  have HX : Hid (Has W0 w.heap.size 29 #[.int .i64 s, .int .u64 g]) := by rw [hW0]; exact hide ((Has.new w _ _).alloc _)
  have HZ : Hid (Has W0 (w.heap.size + 1) 29 #[.int .i64 0, .int .u64 0]) := by rw [hW0]; exact hide (Has.last _ _ _ (by simp))
  rw [← hW0]
  replace HL := hide (HL.out.below B0.out)
  clear hW0
  replace HM := hide (HM.out.kept (B0.out.block _ HM.out.lt))
  replace HK := hide (HK.out.below B0.out HK.out.lt)
  replace HB := hide (HB.out.below B0.out HB.out.lt)
  replace HK1 := hide (HK1.out.below B0.out HK1.out.lt)
  refine wp_region_fixed [6, 7, 8, 9, 10, 11, 12, 13, 14, 15, 16, 17, 18, 19, 20]
    [.pointer (some ⟨b, 0, none⟩), .agg #[.int .i64 s, .int .u64 g], .bool true, .bool false, .bool false, .pointer (some ⟨b, 0, none⟩), .pointer (some ⟨b, 0, none⟩), .pointer (some ⟨b, 0, none⟩), .map (some mb), .agg #[.int .i64 s, .int .u64 g], .pointer (some ⟨k, 0, none⟩), .pointer (some ⟨k, 0, none⟩), .pointer (some ⟨k, 2, none⟩), .pointer (some ⟨k1, 0, none⟩), .bool false] (by kernel_rfl) (by simp) rfl (by kernel_rfl) (by kernel_rfl) (by kernel_rfl) (by simp) (by decide) ?_ ?_
  · refine ⟨?_, ?_, ?_, ?_, ?_, ?_, ?_, ?_, ?_, ?_, ?_, ?_, ?_, ?_, ?_, trivial⟩
    · exact .inl ⟨.inl rfl, fun a' W hB hold he K hK => fx_move (.tmp 0) _ (.inl rfl) (hold 0 (by decide)) (hK _ (Below.refl _ _))⟩
    · exact .inl ⟨.inl rfl, fun a' W hB hold he K hK => wp_step_load 29 (.tmp 3) _ rfl _ (hold 3 (by decide)) (load_h W _ _ _ (HX.out.below hB HX.out.lt)) (hK _ (Below.refl _ _))⟩
    · exact .inl ⟨.inl rfl, fun a' W hB hold he K hK => (by have h0 : a'.eval (.tmp 6) = _ := (he ⟨0, .data⟩ (by simp) rfl); have h1 : a'.eval (.tmp 7) = _ := (he ⟨1, .data⟩ (by simp) rfl); exact wp_step_call 9 #[_, _] (by simp only [execOp, h0, h1]; simp [go_sem] <;> simp_all [Act.eval]) ((HC.out W (HL.out.below hB)).mono (by rintro e1 w' ⟨rfl, hb⟩; exact ⟨_, rfl, hK _ hb⟩)))⟩
    · exact .inl ⟨.inl rfl, fun a' W hB hold he K hK => fx_not 4 (.tmp 8) _ rfl (he ⟨2, .data⟩ (by simp) rfl) (hK _ (Below.refl _ _))⟩
    · exact .inl ⟨.inl rfl, fun a' W hB hold he K hK => fx_move (.tmp 9) _ (.inl rfl) (he ⟨3, .data⟩ (by simp) rfl) (hK _ (Below.refl _ _))⟩
    · exact .inl ⟨.inr ⟨4, false, _, rfl, ⟨⟨4, .guard⟩, by simp, rfl, rfl⟩, rfl, rfl, by decide, rfl⟩, fun a' W hB hold he K hK => fx_move (.tmp 0) _ (.inl rfl) (hold 0 (by decide)) (hK _ (Below.refl _ _))⟩
    · exact .inl ⟨.inr ⟨4, false, _, rfl, ⟨⟨4, .guard⟩, by simp, rfl, rfl⟩, rfl, rfl, by decide, rfl⟩, fun a' W hB hold he K hK => fx_nil (.tmp 11) _ rfl (he ⟨5, .data⟩ (by simp) rfl) (hK _ (Below.refl _ _))⟩
    · exact .inl ⟨.inr ⟨4, false, _, rfl, ⟨⟨4, .guard⟩, by simp, rfl, rfl⟩, rfl, rfl, by decide, rfl⟩, fun a' W hB hold he K hK => fx_field 58 (.tmp 12) 0 _ _ rfl (he ⟨6, .data⟩ (by simp) rfl) (by kernel_rfl) (hK _ (Below.refl _ _))⟩
    · exact .inl ⟨.inr ⟨4, false, _, rfl, ⟨⟨4, .guard⟩, by simp, rfl, rfl⟩, rfl, rfl, by decide, rfl⟩, fun a' W hB hold he K hK => wp_step_load 55 (.tmp 13) _ rfl _ (he ⟨7, .data⟩ (by simp) rfl) (load_all W _ _ _ _ (HB.out.below hB HB.out.lt)) (hK _ (Below.refl _ _))⟩
    · exact .inl ⟨.inr ⟨4, false, _, rfl, ⟨⟨4, .guard⟩, by simp, rfl, rfl⟩, rfl, rfl, by decide, rfl⟩, fun a' W hB hold he K hK => wp_step_load 29 (.tmp 3) _ rfl _ (hold 3 (by decide)) (load_h W _ _ _ (HX.out.below hB HX.out.lt)) (hK _ (Below.refl _ _))⟩
    · exact .inl ⟨.inr ⟨4, false, _, rfl, ⟨⟨4, .guard⟩, by simp, rfl, rfl⟩, rfl, rfl, by decide, rfl⟩, fun a' W hB hold he K hK => fx_lookup 55 (.tmp 14) (.tmp 15) false _ _ _ rfl (he ⟨8, .data⟩ (by simp) rfl) (he ⟨9, .data⟩ (by simp) rfl) (HR.out W (HM.out.kept (hB.block _ HM.out.lt))) (hK _ (Below.refl _ _))⟩
    · exact .inl ⟨.inr ⟨4, false, _, rfl, ⟨⟨4, .guard⟩, by simp, rfl, rfl⟩, rfl, rfl, by decide, rfl⟩, fun a' W hB hold he K hK => fx_nil (.tmp 16) _ rfl (he ⟨10, .data⟩ (by simp) rfl) (hK _ (Below.refl _ _))⟩
    · exact .inl ⟨.inr ⟨4, false, _, rfl, ⟨⟨4, .guard⟩, by simp, rfl, rfl⟩, rfl, rfl, by decide, rfl⟩, fun a' W hB hold he K hK => fx_field 60 (.tmp 17) 1 _ _ rfl (he ⟨11, .data⟩ (by simp) rfl) (by kernel_rfl) (hK _ (Below.refl _ _))⟩
    · exact .inl ⟨.inr ⟨4, false, _, rfl, ⟨⟨4, .guard⟩, by simp, rfl, rfl⟩, rfl, rfl, by decide, rfl⟩, fun a' W hB hold he K hK => wp_step_load 56 (.tmp 18) _ rfl _ (he ⟨12, .data⟩ (by simp) rfl) (load_end W _ _ _ ((HK.out.below hB HK.out.lt).cell 2)) (hK _ (Below.refl _ _))⟩
    · exact .inl ⟨.inr ⟨4, false, _, rfl, ⟨⟨4, .guard⟩, by simp, rfl, rfl⟩, rfl, rfl, by decide, rfl⟩, fun a' W hB hold he K hK => fx_bin .eql 56 56 (.tmp 19) (.const (.pointer none)) _ _ _ rfl (he ⟨13, .data⟩ (by simp) rfl) rfl (by kernel_rfl) (by kernel_rfl) (hK _ (Below.refl _ _))⟩
  intro W1 hb
  have B1 := hide (below_on B0.out hb)
  have Z1 := hide (HZ.out.below hb HZ.out.lt)
  replace HX := hide (HX.out.below hb HX.out.lt)
  replace HM := hide (HM.out.kept (hb.block _ HM.out.lt))
  replace HK := hide (HK.out.below hb HK.out.lt)
  replace HB := hide (HB.out.below hb HB.out.lt)
  replace HK1 := hide (HK1.out.below hb HK1.out.lt)
  clear hb
  simp only [putAll, List.length_cons, List.length_nil, Nat.reduceAdd, List.drop_succ_cons, List.drop_zero]
  go_wp2_with fail
  refine wp_region_fixed [23, 24, 25, 26, 27, 28, 29, 30, 31, 32, 33, 34]
    [.pointer (some ⟨b, 0, none⟩), .pointer (some ⟨b, 0, none⟩), .pointer (some ⟨b, 0, none⟩), .map (some mb), .agg #[.int .i64 s, .int .u64 g], .pointer (some ⟨k, 0, none⟩), .pointer (some ⟨k, 0, none⟩), .pointer (some ⟨k, 2, none⟩), .pointer (some ⟨k1, 0, none⟩), .pointer (some ⟨k1, 0, none⟩), .pointer (some ⟨k1, 0, none⟩), .agg #[.int .i64 s1, .int .u64 g1]] (by kernel_rfl) (by simp) rfl (by kernel_rfl) (by kernel_rfl) (by kernel_rfl) (by simp) (by decide) ?_ ?_
  · refine ⟨?_, ?_, ?_, ?_, ?_, ?_, ?_, ?_, ?_, ?_, ?_, ?_, trivial⟩
    · exact .inl ⟨.inl rfl, fun a' W hB hold he K hK => fx_move (.tmp 0) _ (.inl rfl) (hold 0 (by decide)) (hK _ (Below.refl _ _))⟩
    · exact .inl ⟨.inl rfl, fun a' W hB hold he K hK => fx_nil (.tmp 23) _ rfl (he ⟨0, .data⟩ (by simp) rfl) (hK _ (Below.refl _ _))⟩
    · exact .inl ⟨.inl rfl, fun a' W hB hold he K hK => fx_field 58 (.tmp 24) 0 _ _ rfl (he ⟨1, .data⟩ (by simp) rfl) (by kernel_rfl) (hK _ (Below.refl _ _))⟩
    · exact .inl ⟨.inl rfl, fun a' W hB hold he K hK => wp_step_load 55 (.tmp 25) _ rfl _ (he ⟨2, .data⟩ (by simp) rfl) (load_all W _ _ _ _ (HB.out.below hB HB.out.lt)) (hK _ (Below.refl _ _))⟩
    · exact .inl ⟨.inl rfl, fun a' W hB hold he K hK => wp_step_load 29 (.tmp 3) _ rfl _ (hold 3 (by decide)) (load_h W _ _ _ (HX.out.below hB HX.out.lt)) (hK _ (Below.refl _ _))⟩
    · exact .inl ⟨.inl rfl, fun a' W hB hold he K hK => fx_lookup 55 (.tmp 26) (.tmp 27) false _ _ _ rfl (he ⟨3, .data⟩ (by simp) rfl) (he ⟨4, .data⟩ (by simp) rfl) (HR.out W (HM.out.kept (hB.block _ HM.out.lt))) (hK _ (Below.refl _ _))⟩
    · exact .inl ⟨.inl rfl, fun a' W hB hold he K hK => fx_nil (.tmp 28) _ rfl (he ⟨5, .data⟩ (by simp) rfl) (hK _ (Below.refl _ _))⟩
    · exact .inl ⟨.inl rfl, fun a' W hB hold he K hK => fx_field 60 (.tmp 29) 1 _ _ rfl (he ⟨6, .data⟩ (by simp) rfl) (by kernel_rfl) (hK _ (Below.refl _ _))⟩
    · exact .inl ⟨.inl rfl, fun a' W hB hold he K hK => wp_step_load 56 (.tmp 30) _ rfl _ (he ⟨7, .data⟩ (by simp) rfl) (load_end W _ _ _ ((HK.out.below hB HK.out.lt).cell 2)) (hK _ (Below.refl _ _))⟩
    · exact .inl ⟨.inl rfl, fun a' W hB hold he K hK => fx_nil (.tmp 31) _ rfl (he ⟨8, .data⟩ (by simp) rfl) (hK _ (Below.refl _ _))⟩
    · exact .inl ⟨.inl rfl, fun a' W hB hold he K hK => fx_field 60 (.tmp 32) 0 _ _ rfl (he ⟨9, .data⟩ (by simp) rfl) (by kernel_rfl) (hK _ (Below.refl _ _))⟩
    · exact .inl ⟨.inl rfl, fun a' W hB hold he K hK => wp_step_load 29 (.tmp 33) _ rfl _ (he ⟨10, .data⟩ (by simp) rfl) (load_hk W _ _ _ _ _ (HK1.out.below hB HK1.out.lt)) (hK _ (Below.refl _ _))⟩
  intro W2 hb
  have B2 := hide (below_on B1.out hb)
  have Z2 := hide (Z1.out.below hb Z1.out.lt)
  clear hb
  simp only [putAll, List.length_cons, List.length_nil, Nat.reduceAdd, List.drop_succ_cons, List.drop_zero]
  have z0 : W2.cell? ⟨w.heap.size + 1, 0, none⟩ = some (.int .i64 0) := Z2.out.cell 0
  have z1 : W2.cell? ⟨w.heap.size + 1, 1, none⟩ = some (.int .u64 0) := Z2.out.cell 1
  have y0 := Z2.out.free 0
  have y1 := Z2.out.free 1
  go_wp2_with fail
  refine bodyPost_ret (by simp [results, Try.results20, go_sem, z0, z1]; rfl) rfl ?_
  exact ⟨rfl, (B2.out.setCell (p := ⟨w.heap.size + 1, 0, none⟩) (by simp) _).setCell (p := ⟨w.heap.size + 1, 1, none⟩) (by simp) _⟩

theorem list_next (N : Nat) (w : World) (b mb : Nat) (hs : List (Int × Int)) (h : ListIs N w b mb hs) (p : Int × Int) (hok : hOk p) :
    Calls Try.prog 20 #[.pointer (some ⟨b, 0, none⟩), .agg #[.int .i64 p.1, .int .u64 p.2]] w fun e w' => e = .returned (.tuple #[hv ((nextOf hs p).getD (0, 0)), .bool (nextOf hs p).isSome]) ∧ Below w.heap.size w w' := by
  unfold nextOf
  cases hi : hAt hs p with
  | none => exact list_next_none N w b mb hs h p hok hi
  | some i =>
    simp only [Option.bind_some]
    cases hn : hs[i + 1]? with
    | none => exact list_next_last N w b mb hs h p hok i hi hn
    | some q => exact list_next_some N w b mb hs h p hok i hi q hn

end Go.Proofs.Ytagminbfboncoaa
