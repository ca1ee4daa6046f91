import Derived.Test.YtagminbfboncoaaListD
import Derived.RegionTactic
import Derived.ChangeAlike
import Derived.BigRegion
/-! Package list: Push. -/
namespace Go.Proofs.Ytagminbfboncoaa
open Go.RowKit Go.Maps
set_option maxHeartbeats 2000000
set_option maxRecDepth 100000
set_option linter.unusedSimpArgs false
set_option linter.unusedVariables false

/-- What becomes of the row. -/
def pushed (hs : List (Int × Int)) (p : Int × Int) (front : Bool) : List (Int × Int) := if p ∈ hs then hs else if front then p :: hs else hs ++ [p]

/-- What a call leaves: the row, all that was there below N, all that is no list's. -/
def ListTo (N : Nat) (w : World) (b mb : Nat) (hs : List (Int × Int)) (v : Value) (e : Ending) (w' : World) : Prop := e = .returned v ∧ ListIs N w' b mb hs ∧ Below N w w' ∧ Turned (ListMay mb w) w w'

theorem may_list {mb : Nat} {w : World} {b : Nat} {cs : Array Value} (h : Has w b 58 cs) : ListMay mb w b := .inl ⟨cs, h⟩
theorem may_link {mb : Nat} {w : World} {b : Nat} {cs : Array Value} (h : Has w b 60 cs) : ListMay mb w b := .inr (.inl ⟨cs, h⟩)
theorem may_map {w : World} {b : Nat} {m : List ((Int × Int) × Value)} (h : MapIs w b hKey hOk m) : ListMay b w b := by
  obtain ⟨es, c, h, _⟩ := h
  exact .inr (.inr ⟨rfl, es, c, h⟩)

theorem has_not_map {w : World} {b mb : Nat} {t : TypeId} {cs : Array Value} {m : List ((Int × Int) × Value)} (h : Has w b t cs) (hm : MapIs w mb hKey hOk m) : b ≠ mb := by
  rintro rfl
  obtain ⟨es, c, hc, _⟩ := hm
  unfold Has at h
  rw [h] at hc
  cases hc

theorem list_push_there (N : Nat) (w : World) (b mb : Nat) (hs : List (Int × Int)) (h : ListIs N w b mb hs) (p : Int × Int) (hok : hOk p) (front : Bool) (hp : p ∈ hs) :
    Calls Try.prog 10 #[.pointer (some ⟨b, 0, none⟩), .agg #[.int .i64 p.1, .int .u64 p.2], .bool front] w (ListTo N w b mb hs (.int .i64 7)) := by
  have hq := fun w => run_eql_map_nil (P := Try.prog) w 55 29 56 (some mb) Try.underlying55
  have HL := hide h
  obtain ⟨ks, m, hNb, hNm, hb0, hc, hnd, hoks, hm, hml, hg⟩ := h
  have HR := hide (fun W (hm : MapIs W mb hKey hOk m) => list_get hm hg p hok)
  have HU := hide (fun W v (hm : MapIs W mb hKey hOk m) => run_put (w := W) handle_mkey Try.underlying55 hm (a := p) hok v)
  have HM := hide hm
  have HB := hide hb0
  obtain ⟨i, hi⟩ := List.getElem?_of_mem hp
  have hi := hAt_of hnd hi
  have hlt : i < hs.length := (List.getElem?_eq_some_iff.1 (hAt_some hi)).1
  obtain ⟨k, hk⟩ : ∃ k, ks[i]? = some k := ⟨_, List.getElem?_eq_getElem (by rw [hc.1]; exact hlt)⟩
  have hlk : linkOf hs ks p = some k := by unfold linkOf; rw [hi]; exact hk
  rw [hlk] at HR
  obtain ⟨s, g⟩ := p
  have hNw : N ≤ w.heap.size := Nat.le_trans hNb (Nat.le_of_lt hb0.lt)
  clear hp hi hlt hk hlk hc hm hg hb0 HU hnd hoks hml hNb hNm
  simp only [lp, Option.map] at HR
  go_enter Try.func10, Try.ntmps10
  have q0 : (w.alloc (.cells #[.int .i64 s, .int .u64 g] 29)).cell? ⟨b, 0, none⟩ = some (.map (some mb)) := (HB.out.alloc _).cell 0
  go_wp2_with fail
  clear q0
  obtain ⟨W0, hW0⟩ : ∃ W0, W0 = w.alloc (.cells #[.int .i64 s, .int .u64 g] 29) := ⟨_, rfl⟩
  have hsz : W0.heap.size = w.heap.size + 1 := by rw [hW0]; simp
  have B0 : Hid (Below w.heap.size w W0) := by rw [hW0]; exact hide (by go_grown)
  have HX : Hid (Has W0 w.heap.size 29 #[.int .i64 s, .int .u64 g]) := by rw [hW0]; exact hide (Has.new w _ _)
  rw [← hW0]
  have HM0 := hide (HM.out.kept (B0.out.block _ HM.out.lt))
  have HB0 := hide (HB.out.below B0.out HB.out.lt)
  clear hW0
  refine wp_region_fixed [19, 20, 21, 22, 23, 24, 25]
    [.pointer (some ⟨b, 0, none⟩), .pointer (some ⟨b, 0, none⟩), .pointer (some ⟨b, 0, none⟩), .map (some mb), .agg #[.int .i64 s, .int .u64 g], .pointer (some ⟨k, 0, none⟩), .bool true] (by kernel_rfl) (by simp) rfl (by kernel_rfl) (by kernel_rfl) (by kernel_rfl) (by simp) (by decide) ?_ ?_
  · refine ⟨?_, ?_, ?_, ?_, ?_, ?_, ?_, trivial⟩
    · exact .inl ⟨.inl rfl, fun a' W hB hold he K hK => fx_move (.tmp 0) _ (.inl rfl) (hold 0 (by decide)) (hK _ (Below.refl _ _))⟩
    · exact .inl ⟨.inl rfl, fun a' W hB hold he K hK => fx_nil (.tmp 19) _ rfl (he ⟨0, .data⟩ (by simp) rfl) (hK _ (Below.refl _ _))⟩
    · exact .inl ⟨.inl rfl, fun a' W hB hold he K hK => fx_field 58 (.tmp 20) 0 _ _ rfl (he ⟨1, .data⟩ (by simp) rfl) (by kernel_rfl) (hK _ (Below.refl _ _))⟩
    · exact .inl ⟨.inl rfl, fun a' W hB hold he K hK => wp_step_load 55 (.tmp 21) _ rfl _ (he ⟨2, .data⟩ (by simp) rfl) (load_all W _ _ _ _ (HB0.out.below hB HB0.out.lt)) (hK _ (Below.refl _ _))⟩
    · exact .inl ⟨.inl rfl, fun a' W hB hold he K hK => wp_step_load 29 (.tmp 4) _ rfl _ (hold 4 (by decide)) (load_h W _ _ _ (HX.out.below hB HX.out.lt)) (hK _ (Below.refl _ _))⟩
    · exact .inl ⟨.inl rfl, fun a' W hB hold he K hK => fx_lookup 55 (.tmp 22) (.tmp 23) false _ _ _ rfl (he ⟨3, .data⟩ (by simp) rfl) (he ⟨4, .data⟩ (by simp) rfl) (HR.out W (HM0.out.kept (hB.block _ HM0.out.lt))) (hK _ (Below.refl _ _))⟩
    · exact .inl ⟨.inl rfl, fun a' W hB hold he K hK => fx_bin .neq 56 56 (.tmp 24) (.const (.pointer none)) _ _ _ rfl (he ⟨5, .data⟩ (by simp) rfl) rfl (by kernel_rfl) (by kernel_rfl) (hK _ (Below.refl _ _))⟩
  intro W1 hb
  have B1 := hide (below_on B0.out hb)
  clear hb
  simp only [putAll, List.length_cons, List.length_nil, Nat.reduceAdd, List.drop_succ_cons, List.drop_zero]
  go_wp2_with fail
  go_returns
  exact ⟨rfl, HL.out.below B1.out, B1.out.mono hNw, Turned.of_below B1.out⟩

theorem list_push_first (N : Nat) (w : World) (b mb : Nat) (hs : List (Int × Int)) (h : ListIs N w b mb hs) (p : Int × Int) (hok : hOk p) (hp : p ∉ hs) (front : Bool) (he : hs = []) :
    Calls Try.prog 10 #[.pointer (some ⟨b, 0, none⟩), .agg #[.int .i64 p.1, .int .u64 p.2], .bool front] w (ListTo N w b mb [p] (.int .i64 0)) := by
  have hq := fun w => run_eql_map_nil (P := Try.prog) w 55 29 56 (some mb) Try.underlying55
  have HL := hide h
  obtain ⟨ks, m, hNb, hNm, hb0, hc, hnd, hoks, hm, hml, hg⟩ := h
  have HR := hide (fun W (hm : MapIs W mb hKey hOk m) => list_get hm hg p hok)
  have HU := hide (fun W v (hm : MapIs W mb hKey hOk m) => run_put (w := W) handle_mkey Try.underlying55 hm (a := p) hok v)
  have HM := hide hm
  have HB := hide hb0
  have hlk : linkOf hs ks p = none := by unfold linkOf; rw [hAt_not hp]; rfl
  rw [hlk] at HR
  have HC := hide hc
  have HP := hide hp
  have HN := hide hnd
  have HO := hide hoks
  have HG := hide (show MapOf m hs ks from ⟨hml, hg⟩)
  have hNw : N ≤ w.heap.size := Nat.le_trans hNb (Nat.le_of_lt hb0.lt)
  have HNN := hide (And.intro hNb hNm)
  have HOK := hide hok
  subst he
  obtain rfl : ks = [] := List.length_eq_zero_iff.1 hc.1
  obtain ⟨s, g⟩ := p
  clear hp hlk hc hm hg hb0 hnd hoks hml hNb hNm hok
  simp only [lp, Option.map] at HR
  go_enter Try.func10, Try.ntmps10
  have q0 : (w.alloc (.cells #[.int .i64 s, .int .u64 g] 29)).cell? ⟨b, 0, none⟩ = some (.map (some mb)) := (HB.out.alloc _).cell 0
  go_wp2_with fail
  clear q0
  obtain ⟨W0, hW0⟩ : ∃ W0, W0 = w.alloc (.cells #[.int .i64 s, .int .u64 g] 29) := ⟨_, rfl⟩
  have hsz : W0.heap.size = w.heap.size + 1 := by rw [hW0]; simp
  have B0 : Hid (Below w.heap.size w W0) := by rw [hW0]; exact hide (by go_grown)
  have HX : Hid (Has W0 w.heap.size 29 #[.int .i64 s, .int .u64 g]) := by rw [hW0]; exact hide (Has.new w _ _)
  rw [← hW0]
  have HM0 := hide (HM.out.kept (B0.out.block _ HM.out.lt))
  have HB0 := hide (HB.out.below B0.out HB.out.lt)
  clear hW0
  refine wp_region_fixed [19, 20, 21, 22, 23, 24, 25]
    [.pointer (some ⟨b, 0, none⟩), .pointer (some ⟨b, 0, none⟩), .pointer (some ⟨b, 0, none⟩), .map (some mb), .agg #[.int .i64 s, .int .u64 g], .pointer none, .bool false] (by kernel_rfl) (by simp) rfl (by kernel_rfl) (by kernel_rfl) (by kernel_rfl) (by simp) (by decide) ?_ ?_
  · refine ⟨?_, ?_, ?_, ?_, ?_, ?_, ?_, trivial⟩
    · exact .inl ⟨.inl rfl, fun a' W hB hold he K hK => fx_move (.tmp 0) _ (.inl rfl) (hold 0 (by decide)) (hK _ (Below.refl _ _))⟩
    · exact .inl ⟨.inl rfl, fun a' W hB hold he K hK => fx_nil (.tmp 19) _ rfl (he ⟨0, .data⟩ (by simp) rfl) (hK _ (Below.refl _ _))⟩
    · exact .inl ⟨.inl rfl, fun a' W hB hold he K hK => fx_field 58 (.tmp 20) 0 _ _ rfl (he ⟨1, .data⟩ (by simp) rfl) (by kernel_rfl) (hK _ (Below.refl _ _))⟩
    · exact .inl ⟨.inl rfl, fun a' W hB hold he K hK => wp_step_load 55 (.tmp 21) _ rfl _ (he ⟨2, .data⟩ (by simp) rfl) (load_all W _ _ _ _ (HB0.out.below hB HB0.out.lt)) (hK _ (Below.refl _ _))⟩
    · exact .inl ⟨.inl rfl, fun a' W hB hold he K hK => wp_step_load 29 (.tmp 4) _ rfl _ (hold 4 (by decide)) (load_h W _ _ _ (HX.out.below hB HX.out.lt)) (hK _ (Below.refl _ _))⟩
    · exact .inl ⟨.inl rfl, fun a' W hB hold he K hK => fx_lookup 55 (.tmp 22) (.tmp 23) false _ _ _ rfl (he ⟨3, .data⟩ (by simp) rfl) (he ⟨4, .data⟩ (by simp) rfl) (HR.out W (HM0.out.kept (hB.block _ HM0.out.lt))) (hK _ (Below.refl _ _))⟩
    · exact .inl ⟨.inl rfl, fun a' W hB hold he K hK => fx_bin .neq 56 56 (.tmp 24) (.const (.pointer none)) _ _ _ rfl (he ⟨5, .data⟩ (by simp) rfl) rfl (by kernel_rfl) (by kernel_rfl) (hK _ (Below.refl _ _))⟩
  intro W1 hb
  have B1 := hide (below_on B0.out hb)
  have hsz1 : W0.heap.size ≤ W1.heap.size := hb.size
  have HX1 := hide (HX.out.below hb HX.out.lt)
  clear hb
  have h0 : W1.cell? ⟨w.heap.size, 0, none⟩ = some (.int .i64 s) := HX1.out.cell 0
  have h1 : W1.cell? ⟨w.heap.size, 1, none⟩ = some (.int .u64 g) := HX1.out.cell 1
  simp only [putAll, List.length_cons, List.length_nil, Nat.reduceAdd, List.drop_succ_cons, List.drop_zero]
  go_wp2_with fail
  clear h0 h1
  obtain ⟨x, hx⟩ : ∃ x, x = W1.heap.size := ⟨_, rfl⟩
  have hxw : w.heap.size < x := by omega
  obtain ⟨W2, hW2⟩ : ∃ W2, W2 = W1.alloc (.cells #[.int .i64 s, .int .u64 g, .pointer none, .pointer none] 60) := ⟨_, rfl⟩
  have B2 : Hid (Below w.heap.size w W2) := by rw [hW2]; exact hide (B1.out.alloc (by omega) _)
  have HL2 : Hid (Has W2 x 60 #[.int .i64 s, .int .u64 g, .pointer none, .pointer none]) := by rw [hW2]; exact hide (Has.last _ _ _ hx)
  have HX2 : Hid (Has W2 w.heap.size 29 #[.int .i64 s, .int .u64 g]) := by rw [hW2]; exact hide (HX1.out.alloc _)
  rw [← hW2, ← hx]
  have HM2 := hide (HM.out.kept (B2.out.block _ HM.out.lt))
  have HB2 := hide (HB.out.below B2.out HB.out.lt)
  clear hW2 hx HX1 HX HM0 HB0 B1 B0 hsz hsz1
  refine wp_region_fixed [29, 30, 31, 32, 33, 34]
    [.pointer (some ⟨b, 0, none⟩), .pointer (some ⟨b, 0, none⟩), .pointer (some ⟨b, 0, none⟩), .map (some mb), .agg #[.int .i64 s, .int .u64 g], .pointer (some ⟨x, 0, none⟩)] (by kernel_rfl) (by simp) rfl (by kernel_rfl) (by kernel_rfl) (by kernel_rfl) (by simp) (by decide) ?_ ?_
  · refine ⟨?_, ?_, ?_, ?_, ?_, ?_, trivial⟩
    · exact .inl ⟨.inl rfl, fun a' W hB hold he K hK => fx_move (.tmp 0) _ (.inl rfl) (hold 0 (by decide)) (hK _ (Below.refl _ _))⟩
    · exact .inl ⟨.inl rfl, fun a' W hB hold he K hK => fx_nil (.tmp 29) _ rfl (he ⟨0, .data⟩ (by simp) rfl) (hK _ (Below.refl _ _))⟩
    · exact .inl ⟨.inl rfl, fun a' W hB hold he K hK => fx_field 58 (.tmp 30) 0 _ _ rfl (he ⟨1, .data⟩ (by simp) rfl) (by kernel_rfl) (hK _ (Below.refl _ _))⟩
    · exact .inl ⟨.inl rfl, fun a' W hB hold he K hK => wp_step_load 55 (.tmp 31) _ rfl _ (he ⟨2, .data⟩ (by simp) rfl) (load_all W _ _ _ _ (HB2.out.below hB HB2.out.lt)) (hK _ (Below.refl _ _))⟩
    · exact .inl ⟨.inl rfl, fun a' W hB hold he K hK => wp_step_load 29 (.tmp 4) _ rfl _ (hold 4 (by decide)) (load_h W _ _ _ (HX2.out.below hB HX2.out.lt)) (hK _ (Below.refl _ _))⟩
    · exact .inl ⟨.inl rfl, fun a' W hB hold he K hK => fx_move (.tmp 7) _ (.inl rfl) (hold 7 (by decide)) (hK _ (Below.refl _ _))⟩
  intro W3 hb
  have B3 := hide (below_on B2.out hb)
  have HL3 := hide (HL2.out.below hb HL2.out.lt)
  have HM3 := hide (HM2.out.kept (hb.block _ HM2.out.lt))
  have HB3 := hide (HB2.out.below hb HB2.out.lt)
  clear hb HL2 HM2 HB2 B2 HX2
  simp only [putAll, List.length_cons, List.length_nil, Nat.reduceAdd, List.drop_succ_cons, List.drop_zero]
  go_wp2_with fail
  obtain ⟨W4, h2, hm4, ht4⟩ := HU.out W3 (.pointer (some ⟨x, 0, none⟩)) HM3.out
  have h2 : (Instr.mapUpdate 55 (.map (some mb)) (.agg #[.int .i64 s, .int .u64 g]) (.pointer (some ⟨x, 0, none⟩))).run Try.prog W3 = .ok () W4 := h2
  have HM4 := hide hm4
  have hbm := has_not_map HB3.out HM3.out
  have hxm := has_not_map HL3.out HM3.out
  have HB4 := hide (HB3.out.turned ht4 hbm)
  have HL4 := hide (HL3.out.turned ht4 hxm)
  have T4 := hide (((Turned.of_below (S := fun k => k = mb) B3.out).trans ht4).wide (S2 := ListMay mb w) (fun k _ hk => by rw [hk]; exact may_map HM.out))
  have HC4 := hide (fun (k : Nat) (cs : Array Value) (hk : Has w k 60 cs) => (hk.below B3.out hk.lt).turned ht4 (has_not_map hk HM.out))
  have hN4 := hide (B3.out.mono hNw |>.trans (ht4.below (B := N) (Nat.le_trans hNw B3.out.size) (fun k hk => by rw [hk]; exact HNN.out.2)))
  clear hm4 ht4 HM3 HB3 HL3 B3 hbm hxm
  have c0 : W4.cell? ⟨b, 0, none⟩ = some (.map (some mb)) := HB4.out.cell 0
  have c1 : W4.cell? ⟨b, 1, none⟩ = some (.pointer none) := HB4.out.cell 1
  have c2 : W4.cell? ⟨b, 2, none⟩ = some (.pointer none) := HB4.out.cell 2
  have f1 := HB4.out.free 1
  have f2 := HB4.out.free 2
  rw [h2]
  go_wp2_with fail
  go_returns
  have hne := HL4.out.ne HB4.out (by decide)
  refine ⟨rfl, ⟨[x], _, HNN.out.1, HNN.out.2, (HB4.out.set 1 _).set 2 _, ⟨rfl, by simp, fun i h k hi hk => ?_⟩, by simp, fun h hh => by simp at hh; subst hh; exact HOK.out, (HM4.out.set _ _).set _ _, (mapOf_front HG.out HP.out x).1, (mapOf_front HG.out HP.out x).2⟩, ?_, ?_⟩
  · cases i with
    | succ i => simp at hi
    | zero =>
      simp at hi hk
      subst hi hk
      exact ⟨Nat.le_of_lt (Nat.lt_of_le_of_lt hNw hxw), (HL4.out.far (p := ⟨b, 1, none⟩) hne _).far (p := ⟨b, 2, none⟩) hne _⟩
  · exact (hN4.out.setCell (p := ⟨b, 1, none⟩) HNN.out.1 _).setCell (p := ⟨b, 2, none⟩) HNN.out.1 _
  · exact (T4.out.set (p := ⟨b, 1, none⟩) (fun _ => may_list HB.out) _).set (p := ⟨b, 2, none⟩) (fun _ => may_list HB.out) _

theorem list_push_front (N : Nat) (w : World) (b mb : Nat) (hs : List (Int × Int)) (h : ListIs N w b mb hs) (p : Int × Int) (hok : hOk p) (hp : p ∉ hs) (he : hs ≠ []) :
    Calls Try.prog 10 #[.pointer (some ⟨b, 0, none⟩), .agg #[.int .i64 p.1, .int .u64 p.2], .bool true] w (ListTo N w b mb (p :: hs) (.int .i64 0)) := by
  have hq := fun w => run_eql_map_nil (P := Try.prog) w 55 29 56 (some mb) Try.underlying55
  have HL := hide h
  obtain ⟨ks, m, hNb, hNm, hb0, hc, hnd, hoks, hm, hml, hg⟩ := h
  have HR := hide (fun W (hm : MapIs W mb hKey hOk m) => list_get hm hg p hok)
  have HU := hide (fun W v (hm : MapIs W mb hKey hOk m) => run_put (w := W) handle_mkey Try.underlying55 hm (a := p) hok v)
  have HM := hide hm
  have HB := hide hb0
  have hlk : linkOf hs ks p = none := by unfold linkOf; rw [hAt_not hp]; rfl
  rw [hlk] at HR
  have HC := hide hc
  have HP := hide hp
  have HN := hide hnd
  have HO := hide hoks
  have HG := hide (show MapOf m hs ks from ⟨hml, hg⟩)
  have hNw : N ≤ w.heap.size := Nat.le_trans hNb (Nat.le_of_lt hb0.lt)
  have HNN := hide (And.intro hNb hNm)
  have HOK := hide hok
  have hlen : 0 < hs.length := List.length_pos_iff.2 he
  obtain ⟨n, hn⟩ : ∃ n, hs.length = n + 1 := ⟨hs.length - 1, by omega⟩
  have hkn : ks.length = n + 1 := by rw [hc.1]; exact hn
  obtain ⟨k0, hk0⟩ : ∃ k, ks[0]? = some k := ⟨_, List.getElem?_eq_getElem (by omega)⟩
  obtain ⟨kl, hkl⟩ : ∃ k, ks[n]? = some k := ⟨_, List.getElem?_eq_getElem (by omega)⟩
  rw [hk0, hkn, show n + 1 - 1 = n by omega, hkl] at HB
  simp only [lp, Option.map] at HB
  obtain ⟨q0, hq0⟩ : ∃ q, hs[0]? = some q := ⟨_, List.getElem?_eq_getElem (by omega)⟩
  have HK := hide (hc.2.2 0 q0 k0 hq0 hk0)
  have HH := hide (And.intro hn (And.intro hkn (And.intro hk0 (And.intro hkl hq0))))
  clear hlen hn hkn hk0 hkl hq0 he
  obtain ⟨s, g⟩ := p
  clear hp hlk hc hm hg hb0 hnd hoks hml hNb hNm hok
  simp only [lp, Option.map] at HR
  go_enter Try.func10, Try.ntmps10
  have q0 : (w.alloc (.cells #[.int .i64 s, .int .u64 g] 29)).cell? ⟨b, 0, none⟩ = some (.map (some mb)) := (HB.out.alloc _).cell 0
  go_wp2_with fail
  clear q0
  obtain ⟨W0, hW0⟩ : ∃ W0, W0 = w.alloc (.cells #[.int .i64 s, .int .u64 g] 29) := ⟨_, rfl⟩
  have hsz : W0.heap.size = w.heap.size + 1 := by rw [hW0]; simp
  have B0 : Hid (Below w.heap.size w W0) := by rw [hW0]; exact hide (by go_grown)
  have HX : Hid (Has W0 w.heap.size 29 #[.int .i64 s, .int .u64 g]) := by rw [hW0]; exact hide (Has.new w _ _)
  rw [← hW0]
  have HM0 := hide (HM.out.kept (B0.out.block _ HM.out.lt))
  have HB0 := hide (HB.out.below B0.out HB.out.lt)
  clear hW0
  refine wp_region_fixed [19, 20, 21, 22, 23, 24, 25]
    [.pointer (some ⟨b, 0, none⟩), .pointer (some ⟨b, 0, none⟩), .pointer (some ⟨b, 0, none⟩), .map (some mb), .agg #[.int .i64 s, .int .u64 g], .pointer none, .bool false] (by kernel_rfl) (by simp) rfl (by kernel_rfl) (by kernel_rfl) (by kernel_rfl) (by simp) (by decide) ?_ ?_
  · refine ⟨?_, ?_, ?_, ?_, ?_, ?_, ?_, trivial⟩
    · exact .inl ⟨.inl rfl, fun a' W hB hold he K hK => fx_move (.tmp 0) _ (.inl rfl) (hold 0 (by decide)) (hK _ (Below.refl _ _))⟩
    · exact .inl ⟨.inl rfl, fun a' W hB hold he K hK => fx_nil (.tmp 19) _ rfl (he ⟨0, .data⟩ (by simp) rfl) (hK _ (Below.refl _ _))⟩
    · exact .inl ⟨.inl rfl, fun a' W hB hold he K hK => fx_field 58 (.tmp 20) 0 _ _ rfl (he ⟨1, .data⟩ (by simp) rfl) (by kernel_rfl) (hK _ (Below.refl _ _))⟩
    · exact .inl ⟨.inl rfl, fun a' W hB hold he K hK => wp_step_load 55 (.tmp 21) _ rfl _ (he ⟨2, .data⟩ (by simp) rfl) (load_all W _ _ _ _ (HB0.out.below hB HB0.out.lt)) (hK _ (Below.refl _ _))⟩
    · exact .inl ⟨.inl rfl, fun a' W hB hold he K hK => wp_step_load 29 (.tmp 4) _ rfl _ (hold 4 (by decide)) (load_h W _ _ _ (HX.out.below hB HX.out.lt)) (hK _ (Below.refl _ _))⟩
    · exact .inl ⟨.inl rfl, fun a' W hB hold he K hK => fx_lookup 55 (.tmp 22) (.tmp 23) false _ _ _ rfl (he ⟨3, .data⟩ (by simp) rfl) (he ⟨4, .data⟩ (by simp) rfl) (HR.out W (HM0.out.kept (hB.block _ HM0.out.lt))) (hK _ (Below.refl _ _))⟩
    · exact .inl ⟨.inl rfl, fun a' W hB hold he K hK => fx_bin .neq 56 56 (.tmp 24) (.const (.pointer none)) _ _ _ rfl (he ⟨5, .data⟩ (by simp) rfl) rfl (by kernel_rfl) (by kernel_rfl) (hK _ (Below.refl _ _))⟩
  intro W1 hb
  have B1 := hide (below_on B0.out hb)
  have hsz1 : W0.heap.size ≤ W1.heap.size := hb.size
  have HX1 := hide (HX.out.below hb HX.out.lt)
  clear hb
  have h0 : W1.cell? ⟨w.heap.size, 0, none⟩ = some (.int .i64 s) := HX1.out.cell 0
  have h1 : W1.cell? ⟨w.heap.size, 1, none⟩ = some (.int .u64 g) := HX1.out.cell 1
  simp only [putAll, List.length_cons, List.length_nil, Nat.reduceAdd, List.drop_succ_cons, List.drop_zero]
  go_wp2_with fail
  clear h0 h1
  obtain ⟨x, hx⟩ : ∃ x, x = W1.heap.size := ⟨_, rfl⟩
  have hxw : w.heap.size < x := by omega
  obtain ⟨W2, hW2⟩ : ∃ W2, W2 = W1.alloc (.cells #[.int .i64 s, .int .u64 g, .pointer none, .pointer none] 60) := ⟨_, rfl⟩
  have B2 : Hid (Below w.heap.size w W2) := by rw [hW2]; exact hide (B1.out.alloc (by omega) _)
  have HL2 : Hid (Has W2 x 60 #[.int .i64 s, .int .u64 g, .pointer none, .pointer none]) := by rw [hW2]; exact hide (Has.last _ _ _ hx)
  have HX2 : Hid (Has W2 w.heap.size 29 #[.int .i64 s, .int .u64 g]) := by rw [hW2]; exact hide (HX1.out.alloc _)
  rw [← hW2, ← hx]
  have HM2 := hide (HM.out.kept (B2.out.block _ HM.out.lt))
  have HB2 := hide (HB.out.below B2.out HB.out.lt)
  clear hW2 hx HX1 HX HM0 HB0 B1 B0 hsz hsz1
  refine wp_region_fixed [29, 30, 31, 32, 33, 34]
    [.pointer (some ⟨b, 0, none⟩), .pointer (some ⟨b, 0, none⟩), .pointer (some ⟨b, 0, none⟩), .map (some mb), .agg #[.int .i64 s, .int .u64 g], .pointer (some ⟨x, 0, none⟩)] (by kernel_rfl) (by simp) rfl (by kernel_rfl) (by kernel_rfl) (by kernel_rfl) (by simp) (by decide) ?_ ?_
  · refine ⟨?_, ?_, ?_, ?_, ?_, ?_, trivial⟩
    · exact .inl ⟨.inl rfl, fun a' W hB hold he K hK => fx_move (.tmp 0) _ (.inl rfl) (hold 0 (by decide)) (hK _ (Below.refl _ _))⟩
    · exact .inl ⟨.inl rfl, fun a' W hB hold he K hK => fx_nil (.tmp 29) _ rfl (he ⟨0, .data⟩ (by simp) rfl) (hK _ (Below.refl _ _))⟩
    · exact .inl ⟨.inl rfl, fun a' W hB hold he K hK => fx_field 58 (.tmp 30) 0 _ _ rfl (he ⟨1, .data⟩ (by simp) rfl) (by kernel_rfl) (hK _ (Below.refl _ _))⟩
    · exact .inl ⟨.inl rfl, fun a' W hB hold he K hK => wp_step_load 55 (.tmp 31) _ rfl _ (he ⟨2, .data⟩ (by simp) rfl) (load_all W _ _ _ _ (HB2.out.below hB HB2.out.lt)) (hK _ (Below.refl _ _))⟩
    · exact .inl ⟨.inl rfl, fun a' W hB hold he K hK => wp_step_load 29 (.tmp 4) _ rfl _ (hold 4 (by decide)) (load_h W _ _ _ (HX2.out.below hB HX2.out.lt)) (hK _ (Below.refl _ _))⟩
    · exact .inl ⟨.inl rfl, fun a' W hB hold he K hK => fx_move (.tmp 7) _ (.inl rfl) (hold 7 (by decide)) (hK _ (Below.refl _ _))⟩
  intro W3 hb
  have B3 := hide (below_on B2.out hb)
  have HL3 := hide (HL2.out.below hb HL2.out.lt)
  have HM3 := hide (HM2.out.kept (hb.block _ HM2.out.lt))
  have HB3 := hide (HB2.out.below hb HB2.out.lt)
  clear hb HL2 HM2 HB2 B2 HX2
  simp only [putAll, List.length_cons, List.length_nil, Nat.reduceAdd, List.drop_succ_cons, List.drop_zero]
  go_wp2_with fail
  obtain ⟨W4, h2, hm4, ht4⟩ := HU.out W3 (.pointer (some ⟨x, 0, none⟩)) HM3.out
  have h2 : (Instr.mapUpdate 55 (.map (some mb)) (.agg #[.int .i64 s, .int .u64 g]) (.pointer (some ⟨x, 0, none⟩))).run Try.prog W3 = .ok () W4 := h2
  have HM4 := hide hm4
  have hbm := has_not_map HB3.out HM3.out
  have hxm := has_not_map HL3.out HM3.out
  have HB4 := hide (HB3.out.turned ht4 hbm)
  have HL4 := hide (HL3.out.turned ht4 hxm)
  have T4 := hide (((Turned.of_below (S := fun k => k = mb) B3.out).trans ht4).wide (S2 := ListMay mb w) (fun k _ hk => by rw [hk]; exact may_map HM.out))
  have HC4 := hide (fun (k : Nat) (cs : Array Value) (hk : Has w k 60 cs) => (hk.below B3.out hk.lt).turned ht4 (has_not_map hk HM.out))
  have hN4 := hide (B3.out.mono hNw |>.trans (ht4.below (B := N) (Nat.le_trans hNw B3.out.size) (fun k hk => by rw [hk]; exact HNN.out.2)))
  clear hm4 ht4 HM3 HB3 HL3 B3 hbm hxm
  have c0 : W4.cell? ⟨b, 0, none⟩ = some (.map (some mb)) := HB4.out.cell 0
  have c1 : W4.cell? ⟨b, 1, none⟩ = some (.pointer (some ⟨k0, 0, none⟩)) := HB4.out.cell 1
  have c2 : W4.cell? ⟨b, 2, none⟩ = some (.pointer (some ⟨kl, 0, none⟩)) := HB4.out.cell 2
  have f1 := HB4.out.free 1
  have f2 := HB4.out.free 2
  rw [h2]
  go_wp2_with fail
  have HK4 := hide (HC4.out _ _ HK.out.2)
  have hxk := hide (show x ∉ ks from fun hm => by
    obtain ⟨j, hj⟩ := List.getElem?_of_mem hm
    obtain ⟨z, hz⟩ : ∃ z, hs[j]? = some z := ⟨_, List.getElem?_eq_getElem (by rw [← HC.out.1]; exact (List.getElem?_eq_some_iff.1 hj).1)⟩
    have := (HC.out.2.2 j z x hz hj).2.lt
    omega)
  obtain ⟨hKN, hK4⟩ := And.intro HK.out.1 HK4.out
  have l0 : W4.cell? ⟨x, 2, none⟩ = some (.pointer none) := HL4.out.cell 2
  have l1 := HL4.out.free 2
  have m0 : W4.cell? ⟨k0, 3, none⟩ = some (lp (ahead ks 0)) := hK4.cell 3
  have m1 := hK4.free 3
  have hxk0 : x ≠ k0 := fun e => hxk.out (e ▸ List.mem_of_getElem? HH.out.2.2.1)
  have hk0x : k0 ≠ x := Ne.symm hxk0
  have hbx : b ≠ x := HB4.out.ne HL4.out (by decide)
  have hbk : b ≠ k0 := HB4.out.ne hK4 (by decide)
  clear hK4 hKN
  go_region
  go_wp2_with fail
  go_returns
  have hL := ((HL4.out.drew.set 2 (.pointer (some ⟨k0, 0, none⟩))).far (p := ⟨k0, 3, none⟩) hxk0 (.pointer (some ⟨x, 0, none⟩))).far (p := ⟨b, 1, none⟩) (Ne.symm hbx) (.pointer (some ⟨x, 0, none⟩))
  have hK := ((HK4.out.drew.far (p := ⟨x, 2, none⟩) hk0x (.pointer (some ⟨k0, 0, none⟩))).set 3 (.pointer (some ⟨x, 0, none⟩))).far (p := ⟨b, 1, none⟩) (Ne.symm hbk) (.pointer (some ⟨x, 0, none⟩))
  have hR : ∀ i k, ks[i]? = some k → k ≠ k0 → ∀ cs, Has w k 60 cs → Has (((W4.drew.setCell ⟨x, 2, none⟩ (.pointer (some ⟨k0, 0, none⟩))).setCell ⟨k0, 3, none⟩ (.pointer (some ⟨x, 0, none⟩))).setCell ⟨b, 1, none⟩ (.pointer (some ⟨x, 0, none⟩))) k 60 cs := fun i k hi hk cs hc =>
    ((HC4.out _ _ hc).drew.far (p := ⟨x, 2, none⟩) (fun (e : k = x) => hxk.out (e ▸ List.mem_of_getElem? hi)) _).far (p := ⟨k0, 3, none⟩) hk _ |>.far (p := ⟨b, 1, none⟩) ((HC4.out _ _ hc).ne HB4.out (by decide)) _
  have hCh := chain_front (p := (s, g)) HC.out (Nat.le_of_lt (Nat.lt_of_le_of_lt hNw hxw)) hxk.out HH.out.2.2.1 HH.out.2.2.2.2 (by rw [HH.out.2.2.1]; exact hL) hK
    (fun i k hi hk cs hc => hR i k hk (fun e => by
      have h1 := HH.out.2.2.1
      rw [← e] at h1
      have := (List.getElem?_inj (by have := (List.getElem?_eq_some_iff.1 hk).1; omega) HC.out.2.1).1 (hk.trans h1.symm)
      omega) cs hc)
  have hB := ((HB4.out.drew.far (p := ⟨x, 2, none⟩) hbx (.pointer (some ⟨k0, 0, none⟩))).far (p := ⟨k0, 3, none⟩) hbk (.pointer (some ⟨x, 0, none⟩))).set 1 (.pointer (some ⟨x, 0, none⟩))
  have hends : lp (x :: ks)[0]? = .pointer (some ⟨x, 0, none⟩) ∧ lp (x :: ks)[(x :: ks).length - 1]? = .pointer (some ⟨kl, 0, none⟩) := by
    refine ⟨rfl, ?_⟩
    rw [List.length_cons, HH.out.2.1, show n + 1 + 1 - 1 = n + 1 by omega, List.getElem?_cons_succ, HH.out.2.2.2.1]
    rfl
  refine ⟨rfl, ⟨(x :: ks), _, HNN.out.1, HNN.out.2, (by rw [hends.1, hends.2]; exact hB), hCh, List.nodup_cons.2 ⟨HP.out, HN.out⟩, (fun h hh => by rcases List.mem_cons.1 hh with rfl | hh; exact HOK.out; exact HO.out h hh), ((HM4.out.drew.set _ _).set _ _).set _ _, (mapOf_front HG.out HP.out x).1, (mapOf_front HG.out HP.out x).2⟩, ?_, ?_⟩
  · exact (((hN4.out.drew).setCell (p := ⟨x, 2, none⟩) (Nat.le_of_lt (Nat.lt_of_le_of_lt hNw hxw)) _).setCell (p := ⟨k0, 3, none⟩) HK.out.1 _).setCell (p := ⟨b, 1, none⟩) HNN.out.1 _
  · exact (((T4.out.drew).set (p := ⟨x, 2, none⟩) (fun (h : x < w.heap.size) => absurd h (by omega)) _).set (p := ⟨k0, 3, none⟩) (fun _ => may_link HK.out.2) _).set (p := ⟨b, 1, none⟩) (fun _ => may_list HB.out) _

theorem list_push_back (N : Nat) (w : World) (b mb : Nat) (hs : List (Int × Int)) (h : ListIs N w b mb hs) (p : Int × Int) (hok : hOk p) (hp : p ∉ hs) (he : hs ≠ []) :
    Calls Try.prog 10 #[.pointer (some ⟨b, 0, none⟩), .agg #[.int .i64 p.1, .int .u64 p.2], .bool false] w (ListTo N w b mb (hs ++ [p]) (.int .i64 0)) := by
  have hq := fun w => run_eql_map_nil (P := Try.prog) w 55 29 56 (some mb) Try.underlying55
  have HL := hide h
  obtain ⟨ks, m, hNb, hNm, hb0, hc, hnd, hoks, hm, hml, hg⟩ := h
  have HR := hide (fun W (hm : MapIs W mb hKey hOk m) => list_get hm hg p hok)
  have HU := hide (fun W v (hm : MapIs W mb hKey hOk m) => run_put (w := W) handle_mkey Try.underlying55 hm (a := p) hok v)
  have HM := hide hm
  have HB := hide hb0
  have hlk : linkOf hs ks p = none := by unfold linkOf; rw [hAt_not hp]; rfl
  rw [hlk] at HR
  have HC := hide hc
  have HP := hide hp
  have HN := hide hnd
  have HO := hide hoks
  have HG := hide (show MapOf m hs ks from ⟨hml, hg⟩)
  have hNw : N ≤ w.heap.size := Nat.le_trans hNb (Nat.le_of_lt hb0.lt)
  have HNN := hide (And.intro hNb hNm)
  have HOK := hide hok
  have hlen : 0 < hs.length := List.length_pos_iff.2 he
  obtain ⟨n, hn⟩ : ∃ n, hs.length = n + 1 := ⟨hs.length - 1, by omega⟩
  have hkn : ks.length = n + 1 := by rw [hc.1]; exact hn
  obtain ⟨k0, hk0⟩ : ∃ k, ks[0]? = some k := ⟨_, List.getElem?_eq_getElem (by omega)⟩
  obtain ⟨kl, hkl⟩ : ∃ k, ks[n]? = some k := ⟨_, List.getElem?_eq_getElem (by omega)⟩
  rw [hk0, hkn, show n + 1 - 1 = n by omega, hkl] at HB
  simp only [lp, Option.map] at HB
  obtain ⟨q0, hq0⟩ : ∃ q, hs[n]? = some q := ⟨_, List.getElem?_eq_getElem (by omega)⟩
  have HK := hide (hc.2.2 n q0 kl hq0 hkl)
  have HH := hide (And.intro hn (And.intro hkn (And.intro hk0 (And.intro hkl hq0))))
  clear hlen hn hkn hk0 hkl hq0 he
  obtain ⟨s, g⟩ := p
  clear hp hlk hc hm hg hb0 hnd hoks hml hNb hNm hok
  simp only [lp, Option.map] at HR
  go_enter Try.func10, Try.ntmps10
  have q0 : (w.alloc (.cells #[.int .i64 s, .int .u64 g] 29)).cell? ⟨b, 0, none⟩ = some (.map (some mb)) := (HB.out.alloc _).cell 0
  go_wp2_with fail
  clear q0
  obtain ⟨W0, hW0⟩ : ∃ W0, W0 = w.alloc (.cells #[.int .i64 s, .int .u64 g] 29) := ⟨_, rfl⟩
  have hsz : W0.heap.size = w.heap.size + 1 := by rw [hW0]; simp
  have B0 : Hid (Below w.heap.size w W0) := by rw [hW0]; exact hide (by go_grown)
  have HX : Hid (Has W0 w.heap.size 29 #[.int .i64 s, .int .u64 g]) := by rw [hW0]; exact hide (Has.new w _ _)
  rw [← hW0]
  have HM0 := hide (HM.out.kept (B0.out.block _ HM.out.lt))
  have HB0 := hide (HB.out.below B0.out HB.out.lt)
  clear hW0
  refine wp_region_fixed [19, 20, 21, 22, 23, 24, 25]
    [.pointer (some ⟨b, 0, none⟩), .pointer (some ⟨b, 0, none⟩), .pointer (some ⟨b, 0, none⟩), .map (some mb), .agg #[.int .i64 s, .int .u64 g], .pointer none, .bool false] (by kernel_rfl) (by simp) rfl (by kernel_rfl) (by kernel_rfl) (by kernel_rfl) (by simp) (by decide) ?_ ?_
  · refine ⟨?_, ?_, ?_, ?_, ?_, ?_, ?_, trivial⟩
    · exact .inl ⟨.inl rfl, fun a' W hB hold he K hK => fx_move (.tmp 0) _ (.inl rfl) (hold 0 (by decide)) (hK _ (Below.refl _ _))⟩
    · exact .inl ⟨.inl rfl, fun a' W hB hold he K hK => fx_nil (.tmp 19) _ rfl (he ⟨0, .data⟩ (by simp) rfl) (hK _ (Below.refl _ _))⟩
    · exact .inl ⟨.inl rfl, fun a' W hB hold he K hK => fx_field 58 (.tmp 20) 0 _ _ rfl (he ⟨1, .data⟩ (by simp) rfl) (by kernel_rfl) (hK _ (Below.refl _ _))⟩
    · exact .inl ⟨.inl rfl, fun a' W hB hold he K hK => wp_step_load 55 (.tmp 21) _ rfl _ (he ⟨2, .data⟩ (by simp) rfl) (load_all W _ _ _ _ (HB0.out.below hB HB0.out.lt)) (hK _ (Below.refl _ _))⟩
    · exact .inl ⟨.inl rfl, fun a' W hB hold he K hK => wp_step_load 29 (.tmp 4) _ rfl _ (hold 4 (by decide)) (load_h W _ _ _ (HX.out.below hB HX.out.lt)) (hK _ (Below.refl _ _))⟩
    · exact .inl ⟨.inl rfl, fun a' W hB hold he K hK => fx_lookup 55 (.tmp 22) (.tmp 23) false _ _ _ rfl (he ⟨3, .data⟩ (by simp) rfl) (he ⟨4, .data⟩ (by simp) rfl) (HR.out W (HM0.out.kept (hB.block _ HM0.out.lt))) (hK _ (Below.refl _ _))⟩
    · exact .inl ⟨.inl rfl, fun a' W hB hold he K hK => fx_bin .neq 56 56 (.tmp 24) (.const (.pointer none)) _ _ _ rfl (he ⟨5, .data⟩ (by simp) rfl) rfl (by kernel_rfl) (by kernel_rfl) (hK _ (Below.refl _ _))⟩
  intro W1 hb
  have B1 := hide (below_on B0.out hb)
  have hsz1 : W0.heap.size ≤ W1.heap.size := hb.size
  have HX1 := hide (HX.out.below hb HX.out.lt)
  clear hb
  have h0 : W1.cell? ⟨w.heap.size, 0, none⟩ = some (.int .i64 s) := HX1.out.cell 0
  have h1 : W1.cell? ⟨w.heap.size, 1, none⟩ = some (.int .u64 g) := HX1.out.cell 1
  simp only [putAll, List.length_cons, List.length_nil, Nat.reduceAdd, List.drop_succ_cons, List.drop_zero]
  go_wp2_with fail
  clear h0 h1
  obtain ⟨x, hx⟩ : ∃ x, x = W1.heap.size := ⟨_, rfl⟩
  have hxw : w.heap.size < x := by omega
  obtain ⟨W2, hW2⟩ : ∃ W2, W2 = W1.alloc (.cells #[.int .i64 s, .int .u64 g, .pointer none, .pointer none] 60) := ⟨_, rfl⟩
  have B2 : Hid (Below w.heap.size w W2) := by rw [hW2]; exact hide (B1.out.alloc (by omega) _)
  have HL2 : Hid (Has W2 x 60 #[.int .i64 s, .int .u64 g, .pointer none, .pointer none]) := by rw [hW2]; exact hide (Has.last _ _ _ hx)
  have HX2 : Hid (Has W2 w.heap.size 29 #[.int .i64 s, .int .u64 g]) := by rw [hW2]; exact hide (HX1.out.alloc _)
  rw [← hW2, ← hx]
  have HM2 := hide (HM.out.kept (B2.out.block _ HM.out.lt))
  have HB2 := hide (HB.out.below B2.out HB.out.lt)
  clear hW2 hx HX1 HX HM0 HB0 B1 B0 hsz hsz1
  refine wp_region_fixed [29, 30, 31, 32, 33, 34]
    [.pointer (some ⟨b, 0, none⟩), .pointer (some ⟨b, 0, none⟩), .pointer (some ⟨b, 0, none⟩), .map (some mb), .agg #[.int .i64 s, .int .u64 g], .pointer (some ⟨x, 0, none⟩)] (by kernel_rfl) (by simp) rfl (by kernel_rfl) (by kernel_rfl) (by kernel_rfl) (by simp) (by decide) ?_ ?_
  · refine ⟨?_, ?_, ?_, ?_, ?_, ?_, trivial⟩
    · exact .inl ⟨.inl rfl, fun a' W hB hold he K hK => fx_move (.tmp 0) _ (.inl rfl) (hold 0 (by decide)) (hK _ (Below.refl _ _))⟩
    · exact .inl ⟨.inl rfl, fun a' W hB hold he K hK => fx_nil (.tmp 29) _ rfl (he ⟨0, .data⟩ (by simp) rfl) (hK _ (Below.refl _ _))⟩
    · exact .inl ⟨.inl rfl, fun a' W hB hold he K hK => fx_field 58 (.tmp 30) 0 _ _ rfl (he ⟨1, .data⟩ (by simp) rfl) (by kernel_rfl) (hK _ (Below.refl _ _))⟩
    · exact .inl ⟨.inl rfl, fun a' W hB hold he K hK => wp_step_load 55 (.tmp 31) _ rfl _ (he ⟨2, .data⟩ (by simp) rfl) (load_all W _ _ _ _ (HB2.out.below hB HB2.out.lt)) (hK _ (Below.refl _ _))⟩
    · exact .inl ⟨.inl rfl, fun a' W hB hold he K hK => wp_step_load 29 (.tmp 4) _ rfl _ (hold 4 (by decide)) (load_h W _ _ _ (HX2.out.below hB HX2.out.lt)) (hK _ (Below.refl _ _))⟩
    · exact .inl ⟨.inl rfl, fun a' W hB hold he K hK => fx_move (.tmp 7) _ (.inl rfl) (hold 7 (by decide)) (hK _ (Below.refl _ _))⟩
  intro W3 hb
  have B3 := hide (below_on B2.out hb)
  have HL3 := hide (HL2.out.below hb HL2.out.lt)
  have HM3 := hide (HM2.out.kept (hb.block _ HM2.out.lt))
  have HB3 := hide (HB2.out.below hb HB2.out.lt)
  clear hb HL2 HM2 HB2 B2 HX2
  simp only [putAll, List.length_cons, List.length_nil, Nat.reduceAdd, List.drop_succ_cons, List.drop_zero]
  go_wp2_with fail
  obtain ⟨W4, h2, hm4, ht4⟩ := HU.out W3 (.pointer (some ⟨x, 0, none⟩)) HM3.out
  have h2 : (Instr.mapUpdate 55 (.map (some mb)) (.agg #[.int .i64 s, .int .u64 g]) (.pointer (some ⟨x, 0, none⟩))).run Try.prog W3 = .ok () W4 := h2
  have HM4 := hide hm4
  have hbm := has_not_map HB3.out HM3.out
  have hxm := has_not_map HL3.out HM3.out
  have HB4 := hide (HB3.out.turned ht4 hbm)
  have HL4 := hide (HL3.out.turned ht4 hxm)
  have T4 := hide (((Turned.of_below (S := fun k => k = mb) B3.out).trans ht4).wide (S2 := ListMay mb w) (fun k _ hk => by rw [hk]; exact may_map HM.out))
  have HC4 := hide (fun (k : Nat) (cs : Array Value) (hk : Has w k 60 cs) => (hk.below B3.out hk.lt).turned ht4 (has_not_map hk HM.out))
  have hN4 := hide (B3.out.mono hNw |>.trans (ht4.below (B := N) (Nat.le_trans hNw B3.out.size) (fun k hk => by rw [hk]; exact HNN.out.2)))
  clear hm4 ht4 HM3 HB3 HL3 B3 hbm hxm
  have c0 : W4.cell? ⟨b, 0, none⟩ = some (.map (some mb)) := HB4.out.cell 0
  have c1 : W4.cell? ⟨b, 1, none⟩ = some (.pointer (some ⟨k0, 0, none⟩)) := HB4.out.cell 1
  have c2 : W4.cell? ⟨b, 2, none⟩ = some (.pointer (some ⟨kl, 0, none⟩)) := HB4.out.cell 2
  have f1 := HB4.out.free 1
  have f2 := HB4.out.free 2
  rw [h2]
  go_wp2_with fail
  have HK4 := hide (HC4.out _ _ HK.out.2)
  have hxk := hide (show x ∉ ks from fun hm => by
    obtain ⟨j, hj⟩ := List.getElem?_of_mem hm
    obtain ⟨z, hz⟩ : ∃ z, hs[j]? = some z := ⟨_, List.getElem?_eq_getElem (by rw [← HC.out.1]; exact (List.getElem?_eq_some_iff.1 hj).1)⟩
    have := (HC.out.2.2 j z x hz hj).2.lt
    omega)
  obtain ⟨hKN, hK4⟩ := And.intro HK.out.1 HK4.out
  have l0 : W4.cell? ⟨x, 3, none⟩ = some (.pointer none) := HL4.out.cell 3
  have l1 := HL4.out.free 3
  have m0 : W4.cell? ⟨kl, 2, none⟩ = some (lp ks[n + 1]?) := hK4.cell 2
  have m1 := hK4.free 2
  have hxk0 : x ≠ kl := fun e => hxk.out (e ▸ List.mem_of_getElem? HH.out.2.2.2.1)
  have hk0x : kl ≠ x := Ne.symm hxk0
  have hbx : b ≠ x := HB4.out.ne HL4.out (by decide)
  have hbk : b ≠ kl := HB4.out.ne hK4 (by decide)
  clear hK4 hKN
  go_region
  go_wp2_with fail
  go_returns
  have hL := ((HL4.out.drew.set 3 (.pointer (some ⟨kl, 0, none⟩))).far (p := ⟨kl, 2, none⟩) hxk0 (.pointer (some ⟨x, 0, none⟩))).far (p := ⟨b, 2, none⟩) (Ne.symm hbx) (.pointer (some ⟨x, 0, none⟩))
  have hK := ((HK4.out.drew.far (p := ⟨x, 3, none⟩) hk0x (.pointer (some ⟨kl, 0, none⟩))).set 2 (.pointer (some ⟨x, 0, none⟩))).far (p := ⟨b, 2, none⟩) (Ne.symm hbk) (.pointer (some ⟨x, 0, none⟩))
  have hR : ∀ i k, ks[i]? = some k → k ≠ kl → ∀ cs, Has w k 60 cs → Has (((W4.drew.setCell ⟨x, 3, none⟩ (.pointer (some ⟨kl, 0, none⟩))).setCell ⟨kl, 2, none⟩ (.pointer (some ⟨x, 0, none⟩))).setCell ⟨b, 2, none⟩ (.pointer (some ⟨x, 0, none⟩))) k 60 cs := fun i k hi hk cs hc =>
    ((HC4.out _ _ hc).drew.far (p := ⟨x, 3, none⟩) (fun (e : k = x) => hxk.out (e ▸ List.mem_of_getElem? hi)) _).far (p := ⟨kl, 2, none⟩) hk _ |>.far (p := ⟨b, 2, none⟩) ((HC4.out _ _ hc).ne HB4.out (by decide)) _
  have hCh := chain_back (p := (s, g)) HC.out (Nat.le_of_lt (Nat.lt_of_le_of_lt hNw hxw)) hxk.out HH.out.1 HH.out.2.2.2.1 HH.out.2.2.2.2 hL hK
    (fun i k hi hk cs hc => hR i k hk (fun e => by
      have h1 := HH.out.2.2.2.1
      rw [← e] at h1
      have := (List.getElem?_inj (by have := (List.getElem?_eq_some_iff.1 hk).1; omega) HC.out.2.1).1 (hk.trans h1.symm)
      omega) cs hc)
  have hB := ((HB4.out.drew.far (p := ⟨x, 3, none⟩) hbx (.pointer (some ⟨kl, 0, none⟩))).far (p := ⟨kl, 2, none⟩) hbk (.pointer (some ⟨x, 0, none⟩))).set 2 (.pointer (some ⟨x, 0, none⟩))
  have hends : lp (ks ++ [x])[0]? = .pointer (some ⟨k0, 0, none⟩) ∧ lp (ks ++ [x])[(ks ++ [x]).length - 1]? = .pointer (some ⟨x, 0, none⟩) := by
    have h1 := HH.out.2.1
    refine ⟨?_, ?_⟩
    · rw [List.getElem?_append_left (by omega), HH.out.2.2.1]
      rfl
    · rw [List.length_append, h1, show n + 1 + [x].length - 1 = n + 1 from rfl, List.getElem?_append_right (by omega), show n + 1 - ks.length = 0 by omega]
      rfl
  refine ⟨rfl, ⟨(ks ++ [x]), _, HNN.out.1, HNN.out.2, (by rw [hends.1, hends.2]; exact hB), hCh, (List.nodup_append.2 ⟨HN.out, by simp, fun a ha c hc => by simp at hc; subst hc; exact fun e => HP.out (e ▸ ha)⟩), (fun h hh => by rcases List.mem_append.1 hh with hh | hh; exact HO.out h hh; rw [List.mem_singleton.1 hh]; exact HOK.out), ((HM4.out.drew.set _ _).set _ _).set _ _, (mapOf_back HG.out HC.out.1 HP.out x).1, (mapOf_back HG.out HC.out.1 HP.out x).2⟩, ?_, ?_⟩
  · exact (((hN4.out.drew).setCell (p := ⟨x, 3, none⟩) (Nat.le_of_lt (Nat.lt_of_le_of_lt hNw hxw)) _).setCell (p := ⟨kl, 2, none⟩) HK.out.1 _).setCell (p := ⟨b, 2, none⟩) HNN.out.1 _
  · exact (((T4.out.drew).set (p := ⟨x, 3, none⟩) (fun (h : x < w.heap.size) => absurd h (by omega)) _).set (p := ⟨kl, 2, none⟩) (fun _ => may_link HK.out.2) _).set (p := ⟨b, 2, none⟩) (fun _ => may_list HB.out) _

theorem list_push (N : Nat) (w : World) (b mb : Nat) (hs : List (Int × Int)) (h : ListIs N w b mb hs) (p : Int × Int) (hok : hOk p) (front : Bool) :
    Calls Try.prog 10 #[.pointer (some ⟨b, 0, none⟩), .agg #[.int .i64 p.1, .int .u64 p.2], .bool front] w (ListTo N w b mb (pushed hs p front) (.int .i64 (if p ∈ hs then 7 else 0))) := by
  unfold pushed
  by_cases hp : p ∈ hs
  · rw [if_pos hp, if_pos hp]
    exact list_push_there N w b mb hs h p hok front hp
  · rw [if_neg hp, if_neg hp]
    by_cases he : hs = []
    · have := list_push_first N w b mb hs h p hok hp front he
      subst he
      cases front <;> exact this
    · cases front
      · exact list_push_back N w b mb hs h p hok hp he
      · exact list_push_front N w b mb hs h p hok hp he


end Go.Proofs.Ytagminbfboncoaa
