import Derived.Test.YtjfcpajajaigfaaRefsF
import Derived.Test.YtjfcpajajaigfaaGrowW
/-! wardenlaw24.works. -/
namespace Go.Proofs.Ytjfcpajajaigfaa
open Go.RowKit Go.Maps
set_option maxHeartbeats 4000000
set_option maxRecDepth 100000
set_option linter.unusedSimpArgs false
set_option linter.unusedVariables false

theorem law_one (w : World) (n : Int) (h0 : 0 ≤ n) (h1 : n < 256) : Calls Try.prog 34 #[.int .u8 n] w fun e w' => e = .returned (.agg #[.int .i64 n, .int .u64 1]) ∧ Below w.heap.size w w' := by
  have hw : IntKind.i64.wrap n = n := wrap_i64 (by omega) (by omega)
  go_enter Try.func34, Try.ntmps34
  go_wp2_with fail
  go_returns
  exact ⟨rfl, by go_grown⟩

theorem refs_owned_nil (N : Nat) (w : World) (b : Nat) (L : List Rf) (h : RefsIs N w b L) (hL : L.length ≤ 100000) (hn : nums L 1 L.length = []) :
    Calls Try.prog 21 #[.pointer (some ⟨b, 0, none⟩)] w fun e w' => e = .returned (.slice none 0 0) ∧ Below w.heap.size w w' :=
  (refs_owned N w b L h hL).mono (by
    rintro e w' ⟨v, rfl, ⟨_, hb⟩, hv⟩
    rw [hv hn]
    exact ⟨rfl, hb⟩)

theorem refs_over_no (N : Nat) (w : World) (b : Nat) (L : List Rf) (h : RefsIs N w b L) (hL : L.length ≤ 100000) (r : Int) (hr0 : 0 ≤ r) (hr1 : r < 18446744073709551616) (hno : ∀ m x, r = ((m + 1 : Nat) : Int) → L[m]? = some x → x.k = 3) :
    Calls Try.prog 25 #[.pointer (some ⟨b, 0, none⟩), .int .u64 r] w fun e w' => e = .returned (.int .i64 240) ∧ Below w.heap.size w w' := by
  have C := hide (refs_of_no N w b L h hL r hr0 hr1 hno)
  clear h hno
  go_enter Try.func25, Try.ntmps25
  go_wp2_with fail
  refine C.out.mono ?_
  rintro e w1 ⟨rfl, rfl⟩
  go_wp2_with fail
  go_ret
  exact ⟨rfl, Below.refl _ _⟩

theorem load_h (W : World) (q : Nat) (s g : Int) (h : Has W q 58 #[.int .i64 s, .int .u64 g]) : (Instr.loadAt 58 (.pointer (some ⟨q, 0, none⟩))).run Try.prog W = .ok (.agg #[.int .i64 s, .int .u64 g]) W := by
  have h0 : W.cell? ⟨q, 0, none⟩ = some (.int .i64 s) := h.cell 0
  have h1 : W.cell? ⟨q, 1, none⟩ = some (.int .u64 g) := h.cell 1
  go_simp

def L4 : List Rf := [⟨1, 1, 3⟩, ⟨2, 1, 3⟩]
theorem l4_end : rEnd [⟨1, 1, 2⟩, ⟨2, 1, 2⟩] = L4 := by rfl
theorem l4_lend : rLend [⟨1, 1, 1⟩, ⟨2, 1, 2⟩] 1 = ([⟨1, 1, 2⟩, ⟨2, 1, 2⟩], 0) := by rfl
theorem l4_nums : nums ([⟨1, 1, 2⟩, ⟨2, 1, 2⟩] : List Rf) 2 ([⟨1, 1, 2⟩, ⟨2, 1, 2⟩] : List Rf).length = [1, 2] := by rfl
theorem l4_owned : nums L4 1 L4.length = [] := by rfl

/-- Behind a call on references that were made since w. -/
theorem may_below {N b : Nat} {w W W' : World} (h : Below N w W) (ht : Turned (RefsMay N b W) W W') (hs : N ≤ W.heap.size) : Below N w W' :=
  h.trans (ht.below hs (fun k hk => hk.1))

theorem l4_no : ∀ (m : Nat) (x : Rf), (1 : Int) = ((m + 1 : Nat) : Int) → L4[m]? = some x → x.k = 3 := fun m x h hx => by
  have hm : m = 0 := by omega
  subst hm
  injection hx with hx
  rw [← hx]

theorem refs_works (w : World) : Calls Try.prog 19 #[] w fun e w' => e = .returned (.bool true) ∧ Below w.heap.size w w' := by
  have O1 := hide (fun W => law_one W 1 (by decide) (by decide))
  have O2 := hide (fun W => law_one W 2 (by decide) (by decide))
  go_enter Try.func19, Try.ntmps19
  go_wp2_with fail
  refine (refs_new w.heap.size _ (Nat.le_refl _)).mono ?_
  rintro e w1 ⟨b, rfl, hr, hb, hbl⟩
  have HR := hide hr
  have B := hide hbl
  clear hr hbl
  go_wp2_with fail
  refine (O1.out _).mono ?_
  rintro e wn ⟨rfl, hb2⟩
  have HR := hide (HR.out.below hb2)
  have B := hide (below_on B.out hb2)
  clear hb2
  go_wp2_with fail
  refine (refs_own w.heap.size _ b [] HR.out (by decide) 1 1).mono ?_
  rintro e wn ⟨rfl, hr, ht⟩
  have HR := hide (show RefsIs w.heap.size _ b [⟨1, 1, 1⟩] from hr)
  have B := hide (may_below B.out ht B.out.size)
  clear hr ht
  go_wp2_with fail
  refine (O2.out _).mono ?_
  rintro e wn ⟨rfl, hb2⟩
  have HR := hide (HR.out.below hb2)
  have B := hide (below_on B.out hb2)
  clear hb2
  go_wp2_with fail
  refine (refs_peek w.heap.size _ b [⟨1, 1, 1⟩] HR.out (by decide) 2 1).mono ?_
  rintro e wn ⟨rfl, hr, ht⟩
  have HR := hide (show RefsIs w.heap.size _ b [⟨1, 1, 1⟩, ⟨2, 1, 2⟩] from hr)
  have B := hide (may_below B.out ht B.out.size)
  clear hr ht
  have C1 := fun W (h : RefsIs w.heap.size W b [⟨1, 1, 1⟩, ⟨2, 1, 2⟩]) => refs_lend w.heap.size W b _ h (by decide) 1 (by decide) (by decide)
  rw [l4_lend] at C1
  have C2 := fun W (h : RefsIs w.heap.size W b [⟨1, 1, 2⟩, ⟨2, 1, 2⟩]) => refs_endlent w.heap.size W b _ h (by decide)
  rw [l4_nums, l4_end] at C2
  have C3 := fun W (h : RefsIs w.heap.size W b L4) => refs_Of w.heap.size W b L4 h (by decide) 0 ⟨1, 1, 3⟩ rfl
  have C1 := hide C1
  have C2 := hide C2
  have C3 := hide C3
  go_wp2_with fail
  refine (C1.out _ HR.out).mono ?_
  rintro e wn ⟨rfl, hr, ht⟩
  have HR := hide hr
  have B := hide (may_below B.out ht B.out.size)
  clear hr ht
  go_wp2_with fail
  refine (C2.out _ HR.out).mono ?_
  rintro e wn ⟨rfl, hr, ht⟩
  have HR := hide hr
  have B := hide (may_below B.out ht B.out.size)
  clear hr ht
  go_wp2_with fail
  refine (C3.out _ HR.out).mono ?_
  rintro e wn ⟨rfl, hb2⟩
  have HR := hide (HR.out.below hb2)
  have B := hide (below_on B.out hb2)
  clear hb2
  go_wp2_with fail
  obtain ⟨W0, hW0⟩ : ∃ W0, W0 = wn.alloc (.cells #[.int .i64 1, .int .u64 1] 58) := ⟨_, rfl⟩
  have BQ : Below wn.heap.size wn W0 := by rw [hW0]; exact (Below.refl _ _).alloc (Nat.le_refl _) _
  have HQ := hide (show Has W0 wn.heap.size 58 #[.int .i64 1, .int .u64 1] by rw [hW0]; exact Has.new _ _ _)
  have H0 := hide (HR.out.below BQ)
  have B0 := hide (below_on B.out BQ)
  rw [← hW0]
  clear hW0 BQ HR B
  obtain ⟨q, hq⟩ : ∃ q, q = wn.heap.size := ⟨_, rfl⟩
  rw [← hq] at HQ ⊢
  clear hq
  refine wp_region_fixed [34, 35, 36, 37, 38, 39, 40, 41, 42, 43, 44, 45, 46, 47, 48, 49, 50, 51, 52, 53, 54, 55, 56, 57, 58, 59, 60, 61, 62, 63, 64, 65, 66, 67, 68, 69, 70, 71, 72, 73, 74, 75, 76]
    [.int .u64 1, .bool true, .bool true, .int .i64 0, .bool true, .bool true, .bool true, .int .u64 2, .bool true, .bool true, .bool true, .int .i64 0, .bool true, .bool true, .bool true, .int .i64 0, .bool true, .bool true, .bool true, .int .i64 2, .bool true, .bool true, .bool true, .pointer (some ⟨b, 0, none⟩), .slice none 0 0, .int .i64 0, .bool true, .bool true, .bool true, .agg #[.int .i64 1, .int .u64 1], .agg #[.int .i64 1, .int .u64 1], .bool true, .bool true, .bool true, .int .u8 3, .bool true, .bool true, .bool true, .pointer (some ⟨b, 0, none⟩), .int .u64 1, .int .i64 240, .bool true, .bool true] (by kernel_rfl) (by simp) rfl (by kernel_rfl) (by kernel_rfl) (by kernel_rfl) (by simp) (by decide) ?_ ?_
  · refine ⟨?_, ?_, ?_, ?_, ?_, ?_, ?_, ?_, ?_, ?_, ?_, ?_, ?_, ?_, ?_, ?_, ?_, ?_, ?_, ?_, ?_, ?_, ?_, ?_, ?_, ?_, ?_, ?_, ?_, ?_, ?_, ?_, ?_, ?_, ?_, ?_, ?_, ?_, ?_, ?_, ?_, ?_, ?_, trivial⟩
    · exact .inl ⟨.inl rfl, fun a' W hB hold he K hK => fx_move (.tmp 2) _ (.inl rfl) (hold 2 (by decide)) (hK _ (Below.refl _ _))⟩
    · exact .inl ⟨.inl rfl, fun a' W hB hold he K hK => fx_bin .eql 50 50 (.tmp 34) (.const (.int .u64 1)) _ _ _ rfl (he ⟨0, .data⟩ (by simp) rfl) rfl (by kernel_rfl) (by kernel_rfl) (hK _ (Below.refl _ _))⟩
    · exact .inl ⟨.inl rfl, fun a' W hB hold he K hK => fx_move (.tmp 35) _ (.inl rfl) (he ⟨1, .data⟩ (by simp) rfl) (hK _ (Below.refl _ _))⟩
    · exact .inl ⟨.inr ⟨2, true, _, rfl, ⟨⟨2, .guard⟩, by simp, rfl, rfl⟩, rfl, rfl, by decide, rfl⟩, fun a' W hB hold he K hK => fx_move (.tmp 3) _ (.inl rfl) (hold 3 (by decide)) (hK _ (Below.refl _ _))⟩
    · exact .inl ⟨.inr ⟨2, true, _, rfl, ⟨⟨2, .guard⟩, by simp, rfl, rfl⟩, rfl, rfl, by decide, rfl⟩, fun a' W hB hold he K hK => fx_bin .eql 25 25 (.tmp 37) (.const (.int .i64 0)) _ _ _ rfl (he ⟨3, .data⟩ (by simp) rfl) rfl (by kernel_rfl) (by kernel_rfl) (hK _ (Below.refl _ _))⟩
    · exact .inl ⟨.inl rfl, fun a' W hB hold he K hK => fx_pick (.tmp 36) (.tmp 38) (.const (.bool false)) true _ rfl (he ⟨2, .data⟩ (by simp) rfl) (he ⟨4, .data⟩ (by simp) rfl) (hK _ (Below.refl _ _))⟩
    · exact .inl ⟨.inl rfl, fun a' W hB hold he K hK => fx_move (.tmp 39) _ (.inl rfl) (he ⟨5, .data⟩ (by simp) rfl) (hK _ (Below.refl _ _))⟩
    · exact .inl ⟨.inr ⟨6, true, _, rfl, ⟨⟨6, .guard⟩, by simp, rfl, rfl⟩, rfl, rfl, by decide, rfl⟩, fun a' W hB hold he K hK => fx_move (.tmp 4) _ (.inl rfl) (hold 4 (by decide)) (hK _ (Below.refl _ _))⟩
    · exact .inl ⟨.inr ⟨6, true, _, rfl, ⟨⟨6, .guard⟩, by simp, rfl, rfl⟩, rfl, rfl, by decide, rfl⟩, fun a' W hB hold he K hK => fx_bin .eql 50 50 (.tmp 41) (.const (.int .u64 2)) _ _ _ rfl (he ⟨7, .data⟩ (by simp) rfl) rfl (by kernel_rfl) (by kernel_rfl) (hK _ (Below.refl _ _))⟩
    · exact .inl ⟨.inl rfl, fun a' W hB hold he K hK => fx_pick (.tmp 40) (.tmp 42) (.const (.bool false)) true _ rfl (he ⟨6, .data⟩ (by simp) rfl) (he ⟨8, .data⟩ (by simp) rfl) (hK _ (Below.refl _ _))⟩
    · exact .inl ⟨.inl rfl, fun a' W hB hold he K hK => fx_move (.tmp 43) _ (.inl rfl) (he ⟨9, .data⟩ (by simp) rfl) (hK _ (Below.refl _ _))⟩
    · exact .inl ⟨.inr ⟨10, true, _, rfl, ⟨⟨10, .guard⟩, by simp, rfl, rfl⟩, rfl, rfl, by decide, rfl⟩, fun a' W hB hold he K hK => fx_move (.tmp 5) _ (.inl rfl) (hold 5 (by decide)) (hK _ (Below.refl _ _))⟩
    · exact .inl ⟨.inr ⟨10, true, _, rfl, ⟨⟨10, .guard⟩, by simp, rfl, rfl⟩, rfl, rfl, by decide, rfl⟩, fun a' W hB hold he K hK => fx_bin .eql 25 25 (.tmp 45) (.const (.int .i64 0)) _ _ _ rfl (he ⟨11, .data⟩ (by simp) rfl) rfl (by kernel_rfl) (by kernel_rfl) (hK _ (Below.refl _ _))⟩
    · exact .inl ⟨.inl rfl, fun a' W hB hold he K hK => fx_pick (.tmp 44) (.tmp 46) (.const (.bool false)) true _ rfl (he ⟨10, .data⟩ (by simp) rfl) (he ⟨12, .data⟩ (by simp) rfl) (hK _ (Below.refl _ _))⟩
    · exact .inl ⟨.inl rfl, fun a' W hB hold he K hK => fx_move (.tmp 47) _ (.inl rfl) (he ⟨13, .data⟩ (by simp) rfl) (hK _ (Below.refl _ _))⟩
    · exact .inl ⟨.inr ⟨14, true, _, rfl, ⟨⟨14, .guard⟩, by simp, rfl, rfl⟩, rfl, rfl, by decide, rfl⟩, fun a' W hB hold he K hK => fx_move (.tmp 6) _ (.inl rfl) (hold 6 (by decide)) (hK _ (Below.refl _ _))⟩
    · exact .inl ⟨.inr ⟨14, true, _, rfl, ⟨⟨14, .guard⟩, by simp, rfl, rfl⟩, rfl, rfl, by decide, rfl⟩, fun a' W hB hold he K hK => fx_bin .eql 25 25 (.tmp 49) (.const (.int .i64 0)) _ _ _ rfl (he ⟨15, .data⟩ (by simp) rfl) rfl (by kernel_rfl) (by kernel_rfl) (hK _ (Below.refl _ _))⟩
    · exact .inl ⟨.inl rfl, fun a' W hB hold he K hK => fx_pick (.tmp 48) (.tmp 50) (.const (.bool false)) true _ rfl (he ⟨14, .data⟩ (by simp) rfl) (he ⟨16, .data⟩ (by simp) rfl) (hK _ (Below.refl _ _))⟩
    · exact .inl ⟨.inl rfl, fun a' W hB hold he K hK => fx_move (.tmp 51) _ (.inl rfl) (he ⟨17, .data⟩ (by simp) rfl) (hK _ (Below.refl _ _))⟩
    · exact .inl ⟨.inr ⟨18, true, _, rfl, ⟨⟨18, .guard⟩, by simp, rfl, rfl⟩, rfl, rfl, by decide, rfl⟩, fun a' W hB hold he K hK => fx_move (.tmp 7) _ (.inl rfl) (hold 7 (by decide)) (hK _ (Below.refl _ _))⟩
    · exact .inl ⟨.inr ⟨18, true, _, rfl, ⟨⟨18, .guard⟩, by simp, rfl, rfl⟩, rfl, rfl, by decide, rfl⟩, fun a' W hB hold he K hK => fx_bin .eql 3 3 (.tmp 53) (.const (.int .i64 2)) _ _ _ rfl (he ⟨19, .data⟩ (by simp) rfl) rfl (by kernel_rfl) (by kernel_rfl) (hK _ (Below.refl _ _))⟩
    · exact .inl ⟨.inl rfl, fun a' W hB hold he K hK => fx_pick (.tmp 52) (.tmp 54) (.const (.bool false)) true _ rfl (he ⟨18, .data⟩ (by simp) rfl) (he ⟨20, .data⟩ (by simp) rfl) (hK _ (Below.refl _ _))⟩
    · exact .inl ⟨.inl rfl, fun a' W hB hold he K hK => fx_move (.tmp 55) _ (.inl rfl) (he ⟨21, .data⟩ (by simp) rfl) (hK _ (Below.refl _ _))⟩
    · exact .inl ⟨.inr ⟨22, true, _, rfl, ⟨⟨22, .guard⟩, by simp, rfl, rfl⟩, rfl, rfl, by decide, rfl⟩, fun a' W hB hold he K hK => fx_move (.tmp 1) _ (.inl rfl) (hold 1 (by decide)) (hK _ (Below.refl _ _))⟩
    · exact .inl ⟨.inr ⟨22, true, _, rfl, ⟨⟨22, .guard⟩, by simp, rfl, rfl⟩, rfl, rfl, by decide, rfl⟩, fun a' W hB hold he K hK => (by have h0 : a'.eval (.tmp 57) = _ := (he ⟨23, .data⟩ (by simp) rfl); exact wp_step_call 21 #[_] (by simp only [execOp, h0]; simp [go_sem] <;> simp_all [Act.eval]) ((refs_owned_nil w.heap.size W b L4 (H0.out.below hB) (by decide) l4_owned).mono (by rintro e1 w' ⟨rfl, hb⟩; exact ⟨_, rfl, hK _ hb⟩)))⟩
    · exact .inl ⟨.inr ⟨22, true, _, rfl, ⟨⟨22, .guard⟩, by simp, rfl, rfl⟩, rfl, rfl, by decide, rfl⟩, fun a' W hB hold he K hK => (by have h0 : a'.eval (.tmp 58) = .slice none 0 0 := (he ⟨24, .data⟩ (by simp) rfl); have h1 : a'.tmps[58]?.getD undef = .slice none 0 0 := (by simpa [Act.eval] using h0); exact wp_step_run _ (by simp only [execOp]; simp [go_sem]; rw [h1]; rfl) (hK _ (Below.refl _ _)))⟩
    · exact .inl ⟨.inr ⟨22, true, _, rfl, ⟨⟨22, .guard⟩, by simp, rfl, rfl⟩, rfl, rfl, by decide, rfl⟩, fun a' W hB hold he K hK => fx_bin .eql 3 3 (.tmp 59) (.const (.int .i64 0)) _ _ _ rfl (he ⟨25, .data⟩ (by simp) rfl) rfl (by kernel_rfl) (by kernel_rfl) (hK _ (Below.refl _ _))⟩
    · exact .inl ⟨.inl rfl, fun a' W hB hold he K hK => fx_pick (.tmp 56) (.tmp 60) (.const (.bool false)) true _ rfl (he ⟨22, .data⟩ (by simp) rfl) (he ⟨26, .data⟩ (by simp) rfl) (hK _ (Below.refl _ _))⟩
    · exact .inl ⟨.inl rfl, fun a' W hB hold he K hK => fx_move (.tmp 61) _ (.inl rfl) (he ⟨27, .data⟩ (by simp) rfl) (hK _ (Below.refl _ _))⟩
    · exact .inl ⟨.inr ⟨28, true, _, rfl, ⟨⟨28, .guard⟩, by simp, rfl, rfl⟩, rfl, rfl, by decide, rfl⟩, fun a' W hB hold he K hK => wp_step_load 58 (.tmp 8) _ rfl _ (hold 8 (by decide)) (load_h W q 1 1 (HQ.out.below hB HQ.out.lt)) (hK _ (Below.refl _ _))⟩
    · exact .inl ⟨.inr ⟨28, true, _, rfl, ⟨⟨28, .guard⟩, by simp, rfl, rfl⟩, rfl, rfl, by decide, rfl⟩, fun a' W hB hold he K hK => (by exact wp_step_call 34 #[_] (by simp only [execOp]; simp [go_sem] <;> simp_all [Act.eval]) ((law_one W 1 (by decide) (by decide)).mono (by rintro e1 w' ⟨rfl, hb⟩; exact ⟨_, rfl, hK _ hb⟩)))⟩
    · exact .inl ⟨.inr ⟨28, true, _, rfl, ⟨⟨28, .guard⟩, by simp, rfl, rfl⟩, rfl, rfl, by decide, rfl⟩, fun a' W hB hold he K hK => fx_bin .eql 58 58 (.tmp 63) (.tmp 64) _ _ _ rfl (he ⟨29, .data⟩ (by simp) rfl) (he ⟨30, .data⟩ (by simp) rfl) (by kernel_rfl) (by kernel_rfl) (hK _ (Below.refl _ _))⟩
    · exact .inl ⟨.inl rfl, fun a' W hB hold he K hK => fx_pick (.tmp 62) (.tmp 65) (.const (.bool false)) true _ rfl (he ⟨28, .data⟩ (by simp) rfl) (he ⟨31, .data⟩ (by simp) rfl) (hK _ (Below.refl _ _))⟩
    · exact .inl ⟨.inl rfl, fun a' W hB hold he K hK => fx_move (.tmp 66) _ (.inl rfl) (he ⟨32, .data⟩ (by simp) rfl) (hK _ (Below.refl _ _))⟩
    · exact .inl ⟨.inr ⟨33, true, _, rfl, ⟨⟨33, .guard⟩, by simp, rfl, rfl⟩, rfl, rfl, by decide, rfl⟩, fun a' W hB hold he K hK => fx_move (.tmp 9) _ (.inl rfl) (hold 9 (by decide)) (hK _ (Below.refl _ _))⟩
    · exact .inl ⟨.inr ⟨33, true, _, rfl, ⟨⟨33, .guard⟩, by simp, rfl, rfl⟩, rfl, rfl, by decide, rfl⟩, fun a' W hB hold he K hK => fx_bin .eql 5 5 (.tmp 68) (.const (.int .u8 3)) _ _ _ rfl (he ⟨34, .data⟩ (by simp) rfl) rfl (by kernel_rfl) (by kernel_rfl) (hK _ (Below.refl _ _))⟩
    · exact .inl ⟨.inl rfl, fun a' W hB hold he K hK => fx_pick (.tmp 67) (.tmp 69) (.const (.bool false)) true _ rfl (he ⟨33, .data⟩ (by simp) rfl) (he ⟨35, .data⟩ (by simp) rfl) (hK _ (Below.refl _ _))⟩
    · exact .inl ⟨.inl rfl, fun a' W hB hold he K hK => fx_move (.tmp 70) _ (.inl rfl) (he ⟨36, .data⟩ (by simp) rfl) (hK _ (Below.refl _ _))⟩
    · exact .inl ⟨.inr ⟨37, true, _, rfl, ⟨⟨37, .guard⟩, by simp, rfl, rfl⟩, rfl, rfl, by decide, rfl⟩, fun a' W hB hold he K hK => fx_move (.tmp 1) _ (.inl rfl) (hold 1 (by decide)) (hK _ (Below.refl _ _))⟩
    · exact .inl ⟨.inr ⟨37, true, _, rfl, ⟨⟨37, .guard⟩, by simp, rfl, rfl⟩, rfl, rfl, by decide, rfl⟩, fun a' W hB hold he K hK => fx_move (.tmp 2) _ (.inl rfl) (hold 2 (by decide)) (hK _ (Below.refl _ _))⟩
    · exact .inl ⟨.inr ⟨37, true, _, rfl, ⟨⟨37, .guard⟩, by simp, rfl, rfl⟩, rfl, rfl, by decide, rfl⟩, fun a' W hB hold he K hK => (by have h0 : a'.eval (.tmp 72) = _ := (he ⟨38, .data⟩ (by simp) rfl); have h1 : a'.eval (.tmp 73) = _ := (he ⟨39, .data⟩ (by simp) rfl); exact wp_step_call 25 #[_, _] (by simp only [execOp, h0, h1]; simp [go_sem] <;> simp_all [Act.eval]) ((refs_over_no w.heap.size W b L4 (H0.out.below hB) (by decide) 1 (by decide) (by decide) l4_no).mono (by rintro e1 w' ⟨rfl, hb⟩; exact ⟨_, rfl, hK _ hb⟩)))⟩
    · exact .inl ⟨.inr ⟨37, true, _, rfl, ⟨⟨37, .guard⟩, by simp, rfl, rfl⟩, rfl, rfl, by decide, rfl⟩, fun a' W hB hold he K hK => fx_bin .eql 25 25 (.tmp 74) (.const (.int .i64 240)) _ _ _ rfl (he ⟨40, .data⟩ (by simp) rfl) rfl (by kernel_rfl) (by kernel_rfl) (hK _ (Below.refl _ _))⟩
    · exact .inl ⟨.inl rfl, fun a' W hB hold he K hK => fx_pick (.tmp 71) (.tmp 75) (.const (.bool false)) true _ rfl (he ⟨37, .data⟩ (by simp) rfl) (he ⟨41, .data⟩ (by simp) rfl) (hK _ (Below.refl _ _))⟩
  intro W1 hb2
  have B1 := hide (below_on B0.out hb2)
  clear hb2
  simp only [putAll, List.length_cons, List.length_nil, Nat.reduceAdd, List.drop_succ_cons, List.drop_zero]
  go_wp2_with fail
  go_ret
  exact ⟨rfl, B1.out⟩

end Go.Proofs.Ytjfcpajajaigfaa
