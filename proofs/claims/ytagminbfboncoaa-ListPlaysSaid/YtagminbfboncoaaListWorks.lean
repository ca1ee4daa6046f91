import Derived.Test.YtagminbfboncoaaListAll
import Derived.Test.YtagminbfboncoaaListPush
/-! Package list: what works() answers, and no list. -/
namespace Go.Proofs.Ytagminbfboncoaa
open Go.RowKit Go.Maps
set_option maxHeartbeats 2000000
set_option maxRecDepth 100000
set_option linter.unusedSimpArgs false
set_option linter.unusedVariables false

theorem list_one (w : World) (n : Int) (h1 : 0 ≤ n) (h2 : n < 256) : Calls Try.prog 21 #[.int .u8 n] w fun e w' => e = .returned (.agg #[.int .i64 n, .int .u64 1]) ∧ Below w.heap.size w w' := by
  have hw : IntKind.i64.wrap n = n := by unfold IntKind.wrap; simp [IntKind.signed, IntKind.bits]; omega
  go_enter Try.func21, Try.ntmps21
  go_wp2
  go_returns
  exact ⟨rfl, by go_grown⟩

theorem ok_of {s g : Int} (h0 : 0 ≤ s) (h1 : s < 1000) (h2 : 0 ≤ g) (h3 : g < 1000) : hOk (s, g) := by
  constructor <;> simp [Lit.wf, IntKind.min, IntKind.max, IntKind.signed, IntKind.bits] <;> omega

theorem Has.kept_turned {mb : Nat} {w w' : World} {g : Nat} {cs : Array Value} (h : Has w g 29 cs) (t : Turned (ListMay mb w) w w') : Has w' g 29 cs :=
  (t.block _ h.lt (h.notMay (by decide) (by decide))).trans h

theorem list_len_b (N : Nat) (w : World) (b mb : Nat) (hs : List (Int × Int)) (h : ListIs N w b mb hs) :
    Calls Try.prog 12 #[.pointer (some ⟨b, 0, none⟩)] w fun e w' => e = .returned (.int .i64 hs.length) ∧ Below w.heap.size w w' :=
  (list_len N w b mb hs h).mono (by rintro e w1 ⟨rfl, rfl⟩; exact ⟨rfl, Below.refl _ _⟩)

theorem list_works (w : World) : Calls Try.prog 7 #[] w fun e w' => e = .returned (.bool true) ∧ Below w.heap.size w w' := by
  go_enter Try.func7, Try.ntmps7
  go_wp2_with fail
  refine (list_new _).mono ?_
  rintro e w1 ⟨b, mb, rfl, L, t1⟩
  go_wp2_with fail
  refine (list_one _ 1 (by decide) (by decide)).mono ?_
  rintro e w2 ⟨rfl, t2⟩
  have L := L.below t2
  have t1 := below_on t1 t2
  clear t2
  go_wp2_with fail
  refine (show Calls Try.prog 10 #[.pointer (some ⟨b, 0, none⟩), .agg #[.int .i64 1, .int .u64 1], .bool false] _ (ListTo w.heap.size _ b mb [(1, 1)] (.int .i64 0)) from list_push _ _ _ _ [] L (1, 1) (ok_of (by decide) (by decide) (by decide) (by decide)) false).mono ?_
  rintro e w2 ⟨rfl, L, t2, _⟩
  have t1 := t1.trans t2
  clear t2
  go_wp2_with fail
  refine (list_one _ 2 (by decide) (by decide)).mono ?_
  rintro e w2 ⟨rfl, t2⟩
  have L := L.below t2
  have t1 := below_on t1 t2
  clear t2
  go_wp2_with fail
  refine (show Calls Try.prog 10 #[.pointer (some ⟨b, 0, none⟩), .agg #[.int .i64 2, .int .u64 1], .bool true] _ (ListTo w.heap.size _ b mb [(2, 1), (1, 1)] (.int .i64 0)) from list_push _ _ _ _ [(1, 1)] L (2, 1) (ok_of (by decide) (by decide) (by decide) (by decide)) true).mono ?_
  rintro e w2 ⟨rfl, L, t2, _⟩
  have t1 := t1.trans t2
  clear t2
  go_wp2_with fail
  refine (list_one _ 1 (by decide) (by decide)).mono ?_
  rintro e w2 ⟨rfl, t2⟩
  have L := L.below t2
  have t1 := below_on t1 t2
  clear t2
  go_wp2_with fail
  refine (show Calls Try.prog 10 #[.pointer (some ⟨b, 0, none⟩), .agg #[.int .i64 1, .int .u64 1], .bool true] _ (ListTo w.heap.size _ b mb [(2, 1), (1, 1)] (.int .i64 7)) from list_push _ _ _ _ [(2, 1), (1, 1)] L (1, 1) (ok_of (by decide) (by decide) (by decide) (by decide)) true).mono ?_
  rintro e w2 ⟨rfl, L, t2, _⟩
  have t1 := t1.trans t2
  clear t2
  go_wp2_with fail
  refine (show Calls Try.prog 18 #[.pointer (some ⟨b, 0, none⟩), .bool true] _ (fun e w' => e = .returned (.tuple #[.agg #[.int .i64 2, .int .u64 1], .bool true]) ∧ Below _ _ w') from list_peek _ _ _ _ [(2, 1), (1, 1)] L true).mono ?_
  rintro e wA ⟨rfl, t2⟩
  have L := L.below t2
  have t1 := below_on t1 t2
  clear t2
  go_wp2_with fail
  have R1 : Has (wA.alloc (.cells #[.int .i64 2, .int .u64 1] 29)) wA.heap.size 29 #[.int .i64 2, .int .u64 1] := Has.new _ _ _
  have t2 : Below wA.heap.size wA (wA.alloc (.cells #[.int .i64 2, .int .u64 1] 29)) := (Below.refl _ wA).alloc (Nat.le_refl _) _
  have L := L.below t2
  have t1 := below_on t1 t2
  clear t2
  refine (list_one _ 2 (by decide) (by decide)).mono ?_
  rintro e wD ⟨rfl, t2⟩
  have L := L.below t2
  have t1 := below_on t1 t2
  have R1 := R1.below t2 R1.lt
  clear t2
  go_wp2_with fail
  refine (show Calls Try.prog 20 #[.pointer (some ⟨b, 0, none⟩), .agg #[.int .i64 2, .int .u64 1]] _ (fun e w' => e = .returned (.tuple #[.agg #[.int .i64 1, .int .u64 1], .bool true]) ∧ Below _ _ w') from list_next _ _ _ _ [(2, 1), (1, 1)] L (2, 1) (ok_of (by decide) (by decide) (by decide) (by decide))).mono ?_
  rintro e wB ⟨rfl, t2⟩
  have L := L.below t2
  have t1 := below_on t1 t2
  have R1 := R1.below t2 R1.lt
  clear t2
  go_wp2_with fail
  have R2 : Has (wB.alloc (.cells #[.int .i64 1, .int .u64 1] 29)) wB.heap.size 29 #[.int .i64 1, .int .u64 1] := Has.new _ _ _
  have t2 : Below wB.heap.size wB (wB.alloc (.cells #[.int .i64 1, .int .u64 1] 29)) := (Below.refl _ wB).alloc (Nat.le_refl _) _
  have L := L.below t2
  have t1 := below_on t1 t2
  have R1 := R1.below t2 R1.lt
  clear t2
  refine (show Calls Try.prog 13 #[.pointer (some ⟨b, 0, none⟩), .bool false] _ (ListTo w.heap.size _ b mb [(2, 1)] (.tuple #[.agg #[.int .i64 1, .int .u64 1], .bool true])) from list_pop _ _ _ _ [(2, 1), (1, 1)] L false).mono ?_
  rintro e wC ⟨rfl, L, t2, t3⟩
  have t1 := t1.trans t2
  have R1 := R1.kept_turned t3
  have R2 := R2.kept_turned t3
  clear t2 t3
  go_wp2_with fail
  have R3 : Has (wC.alloc (.cells #[.int .i64 1, .int .u64 1] 29)) wC.heap.size 29 #[.int .i64 1, .int .u64 1] := Has.new _ _ _
  have t2 : Below wC.heap.size wC (wC.alloc (.cells #[.int .i64 1, .int .u64 1] 29)) := (Below.refl _ wC).alloc (Nat.le_refl _) _
  have L := hide (L.below t2)
  have t1 := hide (below_on t1 t2)
  have R1 := hide (R1.below t2 R1.lt)
  have R2 := hide (R2.below t2 R2.lt)
  have R3 := hide R3
  clear t2
  generalize hW : wC.alloc (.cells #[.int .i64 1, .int .u64 1] 29) = W at *
  refine wp_region_fixed [37, 38, 39, 40, 41, 42, 43, 44, 45, 46, 47, 48, 49, 50, 51, 52, 53, 54, 55, 56, 57, 58, 59, 60, 61, 62, 63, 64, 65, 66, 67, 68, 69, 70, 71, 72, 73, 74, 75]
    [.int .i64 0, .bool true, .bool true, .int .i64 0, .bool true, .bool true, .bool true, .int .i64 7, .bool true, .bool true, .bool true, .agg #[.int .i64 2, .int .u64 1], .agg #[.int .i64 2, .int .u64 1], .bool true, .bool true, .bool true, .bool true, .bool true, .bool true, .agg #[.int .i64 1, .int .u64 1], .agg #[.int .i64 1, .int .u64 1], .bool true, .bool true, .bool true, .bool true, .bool true, .bool true, .agg #[.int .i64 1, .int .u64 1], .agg #[.int .i64 1, .int .u64 1], .bool true, .bool true, .bool true, .bool true, .bool true, .bool true, .pointer (some ⟨b, 0, none⟩), .int .i64 1, .bool true, .bool true] (by kernel_rfl) (by simp) rfl (by kernel_rfl) (by kernel_rfl) (by kernel_rfl) (by simp) (by decide) ?_ ?_
  · refine ⟨?_, ?_, ?_, ?_, ?_, ?_, ?_, ?_, ?_, ?_, ?_, ?_, ?_, ?_, ?_, ?_, ?_, ?_, ?_, ?_, ?_, ?_, ?_, ?_, ?_, ?_, ?_, ?_, ?_, ?_, ?_, ?_, ?_, ?_, ?_, ?_, ?_, ?_, ?_, trivial⟩
    · exact .inl ⟨.inl rfl, fun a' W hB hold he K hK => fx_move (.tmp 2) _ (.inl rfl) (hold 2 (by decide)) (hK _ (Below.refl _ _))⟩
    · exact .inl ⟨.inl rfl, fun a' W hB hold he K hK => fx_bin .eql 30 30 (.tmp 37) (.const (.int .i64 0)) _ _ _ rfl (he ⟨0, .data⟩ (by simp) rfl) rfl (by kernel_rfl) (by kernel_rfl) (hK _ (Below.refl _ _))⟩
    · exact .inl ⟨.inl rfl, fun a' W hB hold he K hK => fx_move (.tmp 38) _ (.inl rfl) (he ⟨1, .data⟩ (by simp) rfl) (hK _ (Below.refl _ _))⟩
    · exact .inl ⟨.inr ⟨2, true, _, rfl, ⟨⟨2, .guard⟩, by simp, rfl, rfl⟩, rfl, rfl, by decide, rfl⟩, fun a' W hB hold he K hK => fx_move (.tmp 3) _ (.inl rfl) (hold 3 (by decide)) (hK _ (Below.refl _ _))⟩
    · exact .inl ⟨.inr ⟨2, true, _, rfl, ⟨⟨2, .guard⟩, by simp, rfl, rfl⟩, rfl, rfl, by decide, rfl⟩, fun a' W hB hold he K hK => fx_bin .eql 30 30 (.tmp 40) (.const (.int .i64 0)) _ _ _ rfl (he ⟨3, .data⟩ (by simp) rfl) rfl (by kernel_rfl) (by kernel_rfl) (hK _ (Below.refl _ _))⟩
    · exact .inl ⟨.inl rfl, fun a' W hB hold he K hK => fx_pick (.tmp 39) (.tmp 41) (.const (.bool false)) true _ rfl (he ⟨2, .data⟩ (by simp) rfl) (he ⟨4, .data⟩ (by simp) rfl) (hK _ (Below.refl _ _))⟩
    · exact .inl ⟨.inl rfl, fun a' W hB hold he K hK => fx_move (.tmp 42) _ (.inl rfl) (he ⟨5, .data⟩ (by simp) rfl) (hK _ (Below.refl _ _))⟩
    · exact .inl ⟨.inr ⟨6, true, _, rfl, ⟨⟨6, .guard⟩, by simp, rfl, rfl⟩, rfl, rfl, by decide, rfl⟩, fun a' W hB hold he K hK => fx_move (.tmp 4) _ (.inl rfl) (hold 4 (by decide)) (hK _ (Below.refl _ _))⟩
    · exact .inl ⟨.inr ⟨6, true, _, rfl, ⟨⟨6, .guard⟩, by simp, rfl, rfl⟩, rfl, rfl, by decide, rfl⟩, fun a' W hB hold he K hK => fx_bin .eql 30 30 (.tmp 44) (.const (.int .i64 7)) _ _ _ rfl (he ⟨7, .data⟩ (by simp) rfl) rfl (by kernel_rfl) (by kernel_rfl) (hK _ (Below.refl _ _))⟩
    · exact .inl ⟨.inl rfl, fun a' W hB hold he K hK => fx_pick (.tmp 43) (.tmp 45) (.const (.bool false)) true _ rfl (he ⟨6, .data⟩ (by simp) rfl) (he ⟨8, .data⟩ (by simp) rfl) (hK _ (Below.refl _ _))⟩
    · exact .inl ⟨.inl rfl, fun a' W hB hold he K hK => fx_move (.tmp 46) _ (.inl rfl) (he ⟨9, .data⟩ (by simp) rfl) (hK _ (Below.refl _ _))⟩
    · exact .inl ⟨.inr ⟨10, true, _, rfl, ⟨⟨10, .guard⟩, by simp, rfl, rfl⟩, rfl, rfl, by decide, rfl⟩, fun a' W hB hold he K hK => wp_step_load 29 (.tmp 5) _ rfl _ (hold 5 (by decide)) (load_h W _ _ _ (R1.out.below hB R1.out.lt)) (hK _ (Below.refl _ _))⟩
    · exact .inl ⟨.inr ⟨10, true, _, rfl, ⟨⟨10, .guard⟩, by simp, rfl, rfl⟩, rfl, rfl, by decide, rfl⟩, fun a' W hB hold he K hK => (by exact wp_step_call 21 #[_] (by simp only [execOp]; simp [go_sem] <;> simp_all [Act.eval]) ((list_one W 2 (by decide) (by decide)).mono (by rintro e1 w' ⟨rfl, hb⟩; exact ⟨_, rfl, hK _ hb⟩)))⟩
    · exact .inl ⟨.inr ⟨10, true, _, rfl, ⟨⟨10, .guard⟩, by simp, rfl, rfl⟩, rfl, rfl, by decide, rfl⟩, fun a' W hB hold he K hK => fx_bin .eql 29 29 (.tmp 48) (.tmp 49) _ _ _ rfl (he ⟨11, .data⟩ (by simp) rfl) (he ⟨12, .data⟩ (by simp) rfl) (by kernel_rfl) (by kernel_rfl) (hK _ (Below.refl _ _))⟩
    · exact .inl ⟨.inl rfl, fun a' W hB hold he K hK => fx_pick (.tmp 47) (.tmp 50) (.const (.bool false)) true _ rfl (he ⟨10, .data⟩ (by simp) rfl) (he ⟨13, .data⟩ (by simp) rfl) (hK _ (Below.refl _ _))⟩
    · exact .inl ⟨.inl rfl, fun a' W hB hold he K hK => fx_move (.tmp 51) _ (.inl rfl) (he ⟨14, .data⟩ (by simp) rfl) (hK _ (Below.refl _ _))⟩
    · exact .inl ⟨.inr ⟨15, true, _, rfl, ⟨⟨15, .guard⟩, by simp, rfl, rfl⟩, rfl, rfl, by decide, rfl⟩, fun a' W hB hold he K hK => fx_move (.tmp 6) _ (.inl rfl) (hold 6 (by decide)) (hK _ (Below.refl _ _))⟩
    · exact .inl ⟨.inl rfl, fun a' W hB hold he K hK => fx_pick (.tmp 52) (.tmp 53) (.const (.bool false)) true _ rfl (he ⟨15, .data⟩ (by simp) rfl) (he ⟨16, .data⟩ (by simp) rfl) (hK _ (Below.refl _ _))⟩
    · exact .inl ⟨.inl rfl, fun a' W hB hold he K hK => fx_move (.tmp 54) _ (.inl rfl) (he ⟨17, .data⟩ (by simp) rfl) (hK _ (Below.refl _ _))⟩
    · exact .inl ⟨.inr ⟨18, true, _, rfl, ⟨⟨18, .guard⟩, by simp, rfl, rfl⟩, rfl, rfl, by decide, rfl⟩, fun a' W hB hold he K hK => wp_step_load 29 (.tmp 7) _ rfl _ (hold 7 (by decide)) (load_h W _ _ _ (R2.out.below hB R2.out.lt)) (hK _ (Below.refl _ _))⟩
    · exact .inl ⟨.inr ⟨18, true, _, rfl, ⟨⟨18, .guard⟩, by simp, rfl, rfl⟩, rfl, rfl, by decide, rfl⟩, fun a' W hB hold he K hK => (by exact wp_step_call 21 #[_] (by simp only [execOp]; simp [go_sem] <;> simp_all [Act.eval]) ((list_one W 1 (by decide) (by decide)).mono (by rintro e1 w' ⟨rfl, hb⟩; exact ⟨_, rfl, hK _ hb⟩)))⟩
    · exact .inl ⟨.inr ⟨18, true, _, rfl, ⟨⟨18, .guard⟩, by simp, rfl, rfl⟩, rfl, rfl, by decide, rfl⟩, fun a' W hB hold he K hK => fx_bin .eql 29 29 (.tmp 56) (.tmp 57) _ _ _ rfl (he ⟨19, .data⟩ (by simp) rfl) (he ⟨20, .data⟩ (by simp) rfl) (by kernel_rfl) (by kernel_rfl) (hK _ (Below.refl _ _))⟩
    · exact .inl ⟨.inl rfl, fun a' W hB hold he K hK => fx_pick (.tmp 55) (.tmp 58) (.const (.bool false)) true _ rfl (he ⟨18, .data⟩ (by simp) rfl) (he ⟨21, .data⟩ (by simp) rfl) (hK _ (Below.refl _ _))⟩
    · exact .inl ⟨.inl rfl, fun a' W hB hold he K hK => fx_move (.tmp 59) _ (.inl rfl) (he ⟨22, .data⟩ (by simp) rfl) (hK _ (Below.refl _ _))⟩
    · exact .inl ⟨.inr ⟨23, true, _, rfl, ⟨⟨23, .guard⟩, by simp, rfl, rfl⟩, rfl, rfl, by decide, rfl⟩, fun a' W hB hold he K hK => fx_move (.tmp 8) _ (.inl rfl) (hold 8 (by decide)) (hK _ (Below.refl _ _))⟩
    · exact .inl ⟨.inl rfl, fun a' W hB hold he K hK => fx_pick (.tmp 60) (.tmp 61) (.const (.bool false)) true _ rfl (he ⟨23, .data⟩ (by simp) rfl) (he ⟨24, .data⟩ (by simp) rfl) (hK _ (Below.refl _ _))⟩
    · exact .inl ⟨.inl rfl, fun a' W hB hold he K hK => fx_move (.tmp 62) _ (.inl rfl) (he ⟨25, .data⟩ (by simp) rfl) (hK _ (Below.refl _ _))⟩
    · exact .inl ⟨.inr ⟨26, true, _, rfl, ⟨⟨26, .guard⟩, by simp, rfl, rfl⟩, rfl, rfl, by decide, rfl⟩, fun a' W hB hold he K hK => wp_step_load 29 (.tmp 9) _ rfl _ (hold 9 (by decide)) (load_h W _ _ _ (R3.out.below hB R3.out.lt)) (hK _ (Below.refl _ _))⟩
    · exact .inl ⟨.inr ⟨26, true, _, rfl, ⟨⟨26, .guard⟩, by simp, rfl, rfl⟩, rfl, rfl, by decide, rfl⟩, fun a' W hB hold he K hK => (by exact wp_step_call 21 #[_] (by simp only [execOp]; simp [go_sem] <;> simp_all [Act.eval]) ((list_one W 1 (by decide) (by decide)).mono (by rintro e1 w' ⟨rfl, hb⟩; exact ⟨_, rfl, hK _ hb⟩)))⟩
    · exact .inl ⟨.inr ⟨26, true, _, rfl, ⟨⟨26, .guard⟩, by simp, rfl, rfl⟩, rfl, rfl, by decide, rfl⟩, fun a' W hB hold he K hK => fx_bin .eql 29 29 (.tmp 64) (.tmp 65) _ _ _ rfl (he ⟨27, .data⟩ (by simp) rfl) (he ⟨28, .data⟩ (by simp) rfl) (by kernel_rfl) (by kernel_rfl) (hK _ (Below.refl _ _))⟩
    · exact .inl ⟨.inl rfl, fun a' W hB hold he K hK => fx_pick (.tmp 63) (.tmp 66) (.const (.bool false)) true _ rfl (he ⟨26, .data⟩ (by simp) rfl) (he ⟨29, .data⟩ (by simp) rfl) (hK _ (Below.refl _ _))⟩
    · exact .inl ⟨.inl rfl, fun a' W hB hold he K hK => fx_move (.tmp 67) _ (.inl rfl) (he ⟨30, .data⟩ (by simp) rfl) (hK _ (Below.refl _ _))⟩
    · exact .inl ⟨.inr ⟨31, true, _, rfl, ⟨⟨31, .guard⟩, by simp, rfl, rfl⟩, rfl, rfl, by decide, rfl⟩, fun a' W hB hold he K hK => fx_move (.tmp 10) _ (.inl rfl) (hold 10 (by decide)) (hK _ (Below.refl _ _))⟩
    · exact .inl ⟨.inl rfl, fun a' W hB hold he K hK => fx_pick (.tmp 68) (.tmp 69) (.const (.bool false)) true _ rfl (he ⟨31, .data⟩ (by simp) rfl) (he ⟨32, .data⟩ (by simp) rfl) (hK _ (Below.refl _ _))⟩
    · exact .inl ⟨.inl rfl, fun a' W hB hold he K hK => fx_move (.tmp 70) _ (.inl rfl) (he ⟨33, .data⟩ (by simp) rfl) (hK _ (Below.refl _ _))⟩
    · exact .inl ⟨.inr ⟨34, true, _, rfl, ⟨⟨34, .guard⟩, by simp, rfl, rfl⟩, rfl, rfl, by decide, rfl⟩, fun a' W hB hold he K hK => fx_move (.tmp 1) _ (.inl rfl) (hold 1 (by decide)) (hK _ (Below.refl _ _))⟩
    · exact .inl ⟨.inr ⟨34, true, _, rfl, ⟨⟨34, .guard⟩, by simp, rfl, rfl⟩, rfl, rfl, by decide, rfl⟩, fun a' W hB hold he K hK => (by have h0 : a'.eval (.tmp 72) = _ := (he ⟨35, .data⟩ (by simp) rfl); exact wp_step_call 12 #[_] (by simp only [execOp, h0]; simp [go_sem] <;> simp_all [Act.eval]) ((list_len_b _ _ _ _ [(2, 1)] (L.out.below hB)).mono (by rintro e1 w' ⟨rfl, hb⟩; exact ⟨_, rfl, hK _ hb⟩)))⟩
    · exact .inl ⟨.inr ⟨34, true, _, rfl, ⟨⟨34, .guard⟩, by simp, rfl, rfl⟩, rfl, rfl, by decide, rfl⟩, fun a' W hB hold he K hK => fx_bin .eql 3 3 (.tmp 73) (.const (.int .i64 1)) _ _ _ rfl (he ⟨36, .data⟩ (by simp) rfl) rfl (by kernel_rfl) (by kernel_rfl) (hK _ (Below.refl _ _))⟩
    · exact .inl ⟨.inl rfl, fun a' W hB hold he K hK => fx_pick (.tmp 71) (.tmp 74) (.const (.bool false)) true _ rfl (he ⟨34, .data⟩ (by simp) rfl) (he ⟨37, .data⟩ (by simp) rfl) (hK _ (Below.refl _ _))⟩
  intro W1 hb
  have B1 := below_on t1.out hb
  clear hb
  simp only [putAll, List.length_cons, List.length_nil, Nat.reduceAdd, List.drop_succ_cons, List.drop_zero]
  go_wp2_with fail
  go_returns
  exact ⟨rfl, B1⟩

end Go.Proofs.Ytagminbfboncoaa
