import Derived.Test.YtagminbfboncoaaListDoes
import Derived.Test.YtagminbfboncoaaTurnW
/-! Package list: the law ListPlays, walked. -/
namespace Go.Proofs.Ytagminbfboncoaa
open Go.RowKit Go.Maps
set_option maxHeartbeats 8000000
set_option maxRecDepth 100000
set_option linter.unusedSimpArgs false
set_option linter.unusedVariables false

/-- What holds of memory in region 9, ahead of 'does' and behind it. -/
def PlayInv (w : World) (b mb x q : Nat) (cs : Array Value) (hs hs5 : List (Int × Int)) (bb : Bool) (W : World) : Prop :=
  Both w.heap.size W b mb x (cond bb hs5 hs) ∧ Has W q 42 cs ∧ Below w.heap.size w W

theorem PlayInv.below {w W W' : World} {b mb x q : Nat} {cs : Array Value} {hs hs5 : List (Int × Int)} {bb : Bool} (h : PlayInv w b mb x q cs hs hs5 bb W) (t : Below W.heap.size W W') : PlayInv w b mb x q cs hs hs5 bb W' :=
  ⟨h.1.below t, h.2.1.below t h.2.1.lt, below_on h.2.2 t⟩

def RowVal (B : Nat) (hs5 : List (Int × Int)) (v : Value) (W : World) : Prop := ∃ A c, v = .slice A hs5.length c ∧ W.ownsRow B 29 2 (.slice A hs5.length c) hs5.length (rowCells hs5)

def PlayPhi (B : Nat) (hs5 : List (Int × Int)) (vals : List Value) (i : Nat) (v : Value) (W : World) : Prop :=
  cond (Nat.beq i 7 || Nat.beq i 11 || Nat.beq i 21) (RowVal B hs5 v W) (v = vals.getD i undef)

theorem play_lasts (B : Nat) (hs5 : List (Int × Int)) (vals : List Value) (i : Nat) : LastsW (PlayPhi B hs5 vals i) := by
  intro v W W' hb h
  unfold PlayPhi at *
  cases hc : (Nat.beq i 7 || Nat.beq i 11 || Nat.beq i 21)
  · rw [hc] at h
    exact h
  · rw [hc] at h
    obtain ⟨A, c, h1, h2⟩ := h
    exact ⟨A, c, h1, row_below h2 hb⟩

theorem play_pure (B : Nat) (hs5 : List (Int × Int)) (vals : List Value) (i : Nat) (hi : i < 3) (v : Value) (W W' : World) (h : PlayPhi B hs5 vals i v W) : PlayPhi B hs5 vals i v W' := by
  match i, hi with
  | 0, _ => exact h
  | 1, _ => exact h
  | 2, _ => exact h

theorem load_row (W : World) (x : Nat) (v : Value) (h0 : W.cell? ⟨x, 0, none⟩ = some v) : (Instr.loadAt 22 (.pointer (some ⟨x, 0, none⟩))).run Try.prog W = .ok v W := by
  go_simp

theorem load_step (W : World) (q : Nat) (d s g : Int) (f : Bool) (h : Has W q 42 #[.int .i64 d, .int .i64 s, .int .u64 g, .bool f]) :
    (Instr.loadAt 42 (.pointer (some ⟨q, 0, none⟩))).run Try.prog W = .ok (.agg #[.int .i64 d, .int .i64 s, .int .u64 g, .bool f]) W := by
  have c0 : W.cell? ⟨q, 0, none⟩ = some (.int .i64 d) := h.cell 0
  have c1 : W.cell? ⟨q, 1, none⟩ = some (.int .i64 s) := h.cell 1
  have c2 : W.cell? ⟨q, 2, none⟩ = some (.int .u64 g) := h.cell 2
  have c3 : W.cell? ⟨q, 3, none⟩ = some (.bool f) := h.cell 3
  clear h
  go_simp

theorem neq_i (W : World) (x : Int) : (binOp .neq 3 (.int .i64 x) (.int .i64 x)).run Try.prog W = .ok (.bool false) W := by
  go_simp

theorem neq_b (W : World) (x : Bool) : (binOp .neq 4 (.bool x) (.bool x)).run Try.prog W = .ok (.bool false) W := by
  cases x <;> rfl

theorem geq_at (W : World) (hs : List (Int × Int)) (p : Int × Int) : (binOp .geq 3 (.int .i64 (atOf hs p)) (.int .i64 0)).run Try.prog W = .ok (.bool (hAt hs p).isSome) W := by
  have hd : decide (0 ≤ atOf hs p) = (hAt hs p).isSome := by
    rw [hAt_mem, Bool.eq_iff_iff]
    simp [atOf_mem]
  generalize (hAt hs p).isSome = m at *
  generalize atOf hs p = q at *
  go_simp

theorem geq_nat (W : World) (n : Nat) : (binOp .geq 3 (.int .i64 (n : Int)) (.int .i64 0)).run Try.prog W = .ok (.bool true) W := by
  have hd : decide (0 ≤ (n : Int)) = true := decide_eq_true (by omega)
  go_simp

theorem add_one (W : World) (n : Nat) (h : n + 1 < 1000000) : (binOp .add 3 (.int .i64 (n : Int)) (.int .i64 1)).run Try.prog W = .ok (.int .i64 ((n + 1 : Nat) : Int)) W := by
  have hw : IntKind.i64.wrap ((n : Int) + 1) = ((n + 1 : Nat) : Int) := by rw [wrap_i64 (by omega) (by omega)]; rfl
  go_simp

theorem list_plays_law (w : World) (A : Option Addr) (N c : Nat) (l : List S42) (hl : l.length = N) (_ : N ≤ 9223372036854775807) (hs : SliceOf w A 4 (l.map S42.cells)) (hok : ∀ x ∈ l, x.ok) :
    Calls Try.prog 4 #[.slice A N c] w fun e w' => e = .returned (.bool true) ∧ Below w.heap.size w w' := by
  by_cases h300 : 300 < N
  · have hd : decide ((300 : Int) < N) = true := by simp; omega
    clear hl hs hok
    go_enter Try.func4, Try.ntmps4
    go_wp2_with fail
    refine (list_works _).mono ?_
    rintro e w1 ⟨rfl, hb⟩
    go_wp2
    go_returns
    exact ⟨rfl, hb⟩
  have hd : decide ((300 : Int) < N) = false := by simp; omega
  have HL := hide hl
  have HS := hide hs
  have HO := hide hok
  clear hl hs hok
  go_enter Try.func4, Try.ntmps4
  go_wp2_with fail
  refine (list_new _).mono ?_
  rintro e w1 ⟨b, mb, rfl, L1, t1⟩
  have BA := (Below.refl w1.heap.size w1).alloc (Nat.le_refl _) (.cells #[.slice none 0 0] 40)
  have H1 := hide (show Both w.heap.size (w1.alloc (.cells #[.slice none 0 0] 40)) b mb w1.heap.size [] from ⟨L1.below BA, t1.size, _, Has.new _ _ _, World.ownsRow_nil _ _ _ _⟩)
  have B1 := hide (below_on t1 BA)
  clear L1 t1 BA
  go_wp2_with fail
  generalize w1.heap.size = x at *
  go_loopw [5] (fun i wr => ∃ (k : Nat) (hs : List (Int × Int)), k ≤ N ∧ i = .int .i64 k ∧ hs.length ≤ k ∧ Both w.heap.size wr b mb x hs ∧ Below w.heap.size w wr) (fun i _ => N - (intOf i).toNat)
  case atStart => exact ⟨0, [], Nat.zero_le _, rfl, Nat.zero_le _, H1.out, B1.out⟩
  case round =>
    obtain ⟨k, hs, hk, rfl, hlen, hH, hB⟩ := hrel
    by_cases hlt : k < N
    · have hdl : decide ((k : Int) < (N : Int)) = true := decide_eq_true (by omega)
      have hkw : IntKind.i64.wrap ((k : Int) + 1) = (k : Int) + 1 := wrap_i64 (by omega) (by omega)
      obtain ⟨y, hy⟩ : ∃ x, l[k]? = some x := ⟨_, List.getElem?_eq_getElem (by rw [HL.out]; exact hlt)⟩
      have hyo := HO.out y (List.mem_of_getElem? hy)
      obtain ⟨cb, off, rfl, hcb, hcells⟩ := HS.out.at_ hB (i := k) (cs := y.cells) (by rw [List.getElem?_map, hy]; rfl)
      obtain ⟨d, ⟨s, g⟩, f⟩ := y
      have hpo : hOk (s, g) := ⟨hyo.2.1, hyo.2.2⟩
      have e0 : wr.cell? ⟨cb, off + k * 4, none⟩ = some (.int .i64 d) := hcells 0 _ rfl
      have e1 : wr.cell? ⟨cb, off + k * 4 + 1, none⟩ = some (.int .i64 s) := hcells 1 _ rfl
      have e2 : wr.cell? ⟨cb, off + k * 4 + 2, none⟩ = some (.int .u64 g) := hcells 2 _ rfl
      have e3 : wr.cell? ⟨cb, off + k * 4 + 3, none⟩ = some (.bool f) := hcells 3 _ rfl
      have BQ := (Below.refl wr.heap.size wr).alloc (Nat.le_refl _) (.cells #[.int .i64 d, .int .i64 s, .int .u64 g, .bool f] 42)
      have H2 := hide (hH.below BQ)
      have B2 := hide (hB.alloc hB.size (.cells #[.int .i64 d, .int .i64 s, .int .u64 g, .bool f] 42))
      have Q2 := hide (Has.new wr 42 #[.int .i64 d, .int .i64 s, .int .u64 g, .bool f])
      have HPO := hide hpo
      have HLE := hide hlen
      have hl300 : hs.length ≤ 300 := by omega
      clear hy hyo hcells hH hB hcb hpo BQ hlen
      go_wp2_with fail
      clear e0 e1 e2 e3
      generalize wr.alloc (.cells #[.int .i64 d, .int .i64 s, .int .u64 g, .bool f] 42) = W0 at *
      generalize wr.heap.size = q at *
      have hI0 : PlayInv w b mb x q #[.int .i64 d, .int .i64 s, .int .u64 g, .bool f] hs (stepOf hs d (s, g) f) false W0.drew := ⟨H2.out.below (Below.refl _ _).drew, Q2.out, B2.out.drew⟩
      have hl5 := Nat.le_trans (stepOf_length hs d (s, g) f) (show hs.length + 1 ≤ k + 1 by have := HLE.out; omega)
      have HL5 := hide hl5
      have hl5b : (stepOf hs d (s, g) f).length ≤ 100000 := by omega
      have hsb : hs.length ≤ 90000 := by omega
      generalize hs5e : stepOf hs d (s, g) f = hs5 at *
      refine wp_region_turn [32, 33, 34, 35, 36, 37, 38, 39, 40, 41, 42, 43, 44, 45, 46, 47, 48, 49, 50, 51, 52, 53, 54, 55, 56, 57, 58, 59, 60, 61, 62, 63, 64, 65, 66, 67] 3 (PlayInv w b mb x q #[.int .i64 d, .int .i64 s, .int .u64 g, .bool f] hs hs5)
        (PlayPhi w.heap.size hs5 [.pointer (some ⟨b, 0, none⟩), .pointer (some ⟨x, 0, none⟩), .agg #[.int .i64 d, .int .i64 s, .int .u64 g, .bool f], .bool true, .bool false, .bool false, .pointer (some ⟨b, 0, none⟩), undef, .pointer (some ⟨x, 0, none⟩), .pointer (some ⟨x, 0, none⟩), .pointer (some ⟨x, 0, none⟩), undef, .bool true, .bool false, .bool false, .bool false, .pointer (some ⟨b, 0, none⟩), .int .i64 (hs5.length : Nat), .pointer (some ⟨x, 0, none⟩), .pointer (some ⟨x, 0, none⟩), .pointer (some ⟨x, 0, none⟩), undef, .int .i64 (hs5.length : Nat), .bool false, .bool false, .bool false, .pointer (some ⟨b, 0, none⟩), .pointer (some ⟨q, 1, none⟩), .agg #[.int .i64 s, .int .u64 g], .bool (hAt hs5 (s, g)).isSome, .pointer (some ⟨x, 0, none⟩), .pointer (some ⟨q, 1, none⟩), .agg #[.int .i64 s, .int .u64 g], .int .i64 (atOf hs5 (s, g)), .bool (hAt hs5 (s, g)).isSome, .bool false]) (by kernel_rfl) (by simp) (by simp) (by kernel_rfl) (by kernel_rfl) (by kernel_rfl) (by kernel_rfl) (by simp) (by decide) (play_lasts _ _ _) (play_pure _ _ _) hI0 ?_ ?_
      · refine ⟨?_, ?_, ?_, ?_, ?_, ?_, ?_, ?_, ?_, ?_, ?_, ?_, ?_, ?_, ?_, ?_, ?_, ?_, ?_, ?_, ?_, ?_, ?_, ?_, ?_, ?_, ?_, ?_, ?_, ?_, ?_, ?_, ?_, ?_, ?_, ?_, trivial⟩
        · refine ⟨.inl rfl, fun bb hb1 hb2 a' W hB hold he K hK => ?_⟩
          exact fx_move (.tmp 3) _ (.inl rfl) (hold 3 (by decide)) (hK _ _ (.inr (Below.refl _ _)) hB rfl)
        · refine ⟨.inl rfl, fun bb hb1 hb2 a' W hB hold he K hK => ?_⟩
          exact fx_move (.tmp 4) _ (.inl rfl) (hold 4 (by decide)) (hK _ _ (.inr (Below.refl _ _)) hB rfl)
        · refine ⟨.inl rfl, fun bb hb1 hb2 a' W hB hold he K hK => ?_⟩
          exact wp_step_load 42 (.tmp 6) _ rfl _ (hold 6 (by decide)) (load_step W q d s g f hB.2.1) (hK _ _ (.inr (Below.refl _ _)) hB rfl)
        · refine ⟨.inl rfl, fun bb hb1 hb2 a' W hB hold he K hK => ?_⟩
          obtain rfl := hb2 rfl
          have h0 : a'.eval (.tmp 32) = _ := he ⟨0, .data⟩ (by simp) rfl
          have h1 : a'.eval (.tmp 33) = _ := he ⟨1, .data⟩ (by simp) rfl
          have h2 : a'.eval (.tmp 34) = _ := he ⟨2, .data⟩ (by simp) rfl
          exact wp_step_call 14 #[_, _, _] (by simp only [execOp, h0, h1, h2]; simp [go_sem] <;> simp_all [Act.eval]) ((list_does w.heap.size W b mb x hs hB.1 hsb d s g f HPO.out).mono (by
            rintro e1 w' ⟨rfl, H5, B5, K5⟩
            rw [hs5e] at H5
            exact ⟨_, rfl, hK _ _ (.inl rfl) ⟨H5, K5 _ _ hB.2.1, hB.2.2.trans B5⟩ rfl⟩))
        · refine ⟨.inl rfl, fun bb hb1 hb2 a' W hB hold he K hK => ?_⟩
          obtain rfl := hb1 (by decide)
          exact fx_not 4 (.tmp 35) _ rfl (he ⟨3, .data⟩ (by simp) rfl) (hK _ _ (.inr (Below.refl _ _)) hB rfl)
        · refine ⟨.inl rfl, fun bb hb1 hb2 a' W hB hold he K hK => ?_⟩
          obtain rfl := hb1 (by decide)
          exact fx_move (.tmp 36) _ (.inl rfl) (he ⟨4, .data⟩ (by simp) rfl) (hK _ _ (.inr (Below.refl _ _)) hB rfl)
        · refine ⟨.inr ⟨5, false, _, rfl, ⟨⟨5, .guard⟩, by simp, rfl, rfl⟩, rfl, rfl, by decide, (fun v W h => h)⟩, fun bb hb1 hb2 a' W hB hold he K hK => ?_⟩
          obtain rfl := hb1 (by decide)
          exact fx_move (.tmp 3) _ (.inl rfl) (hold 3 (by decide)) (hK _ _ (.inr (Below.refl _ _)) hB rfl)
        · refine ⟨.inr ⟨5, false, _, rfl, ⟨⟨5, .guard⟩, by simp, rfl, rfl⟩, rfl, rfl, by decide, (fun v W h => h)⟩, fun bb hb1 hb2 a' W hB hold he K hK => ?_⟩
          obtain rfl := hb1 (by decide)
          have h0 : a'.eval (.tmp 38) = _ := he ⟨6, .data⟩ (by simp) rfl
          exact wp_step_call 16 #[_] (by simp only [execOp, h0]; simp [go_sem] <;> simp_all [Act.eval]) ((list_all w.heap.size W b mb hs5 hB.1.1 hl5b).mono (by
            rintro e1 w' ⟨v, rfl, hv, hb⟩
            obtain ⟨A6, c6, rfl⟩ := row_form hv
            exact ⟨_, rfl, hK _ _ (.inr hb) (hB.below hb) ⟨A6, c6, rfl, row_mono hv hB.2.2.size⟩⟩))
        · refine ⟨.inr ⟨5, false, _, rfl, ⟨⟨5, .guard⟩, by simp, rfl, rfl⟩, rfl, rfl, by decide, (fun v W h => h)⟩, fun bb hb1 hb2 a' W hB hold he K hK => ?_⟩
          obtain rfl := hb1 (by decide)
          exact fx_move (.tmp 4) _ (.inl rfl) (hold 4 (by decide)) (hK _ _ (.inr (Below.refl _ _)) hB rfl)
        · refine ⟨.inr ⟨5, false, _, rfl, ⟨⟨5, .guard⟩, by simp, rfl, rfl⟩, rfl, rfl, by decide, (fun v W h => h)⟩, fun bb hb1 hb2 a' W hB hold he K hK => ?_⟩
          obtain rfl := hb1 (by decide)
          exact fx_nil (.tmp 40) _ rfl (he ⟨8, .data⟩ (by simp) rfl) (hK _ _ (.inr (Below.refl _ _)) hB rfl)
        · refine ⟨.inr ⟨5, false, _, rfl, ⟨⟨5, .guard⟩, by simp, rfl, rfl⟩, rfl, rfl, by decide, (fun v W h => h)⟩, fun bb hb1 hb2 a' W hB hold he K hK => ?_⟩
          obtain rfl := hb1 (by decide)
          exact fx_field 40 (.tmp 41) 0 _ _ rfl (he ⟨9, .data⟩ (by simp) rfl) (by kernel_rfl) (hK _ _ (.inr (Below.refl _ _)) hB rfl)
        · refine ⟨.inr ⟨5, false, _, rfl, ⟨⟨5, .guard⟩, by simp, rfl, rfl⟩, rfl, rfl, by decide, (fun v W h => h)⟩, fun bb hb1 hb2 a' W hB hold he K hK => ?_⟩
          obtain rfl := hb1 (by decide)
          obtain ⟨Ax, cx, hx, hrow⟩ := (show RefIs _ W x hs5 from hB.1.2).form
          exact wp_step_load 22 (.tmp 42) (.slice Ax hs5.length cx) rfl _ (he ⟨10, .data⟩ (by simp) rfl) (load_row W x _ (hx.cell 0)) (hK _ _ (.inr (Below.refl _ _)) hB ⟨Ax, cx, rfl, hrow⟩)
        · refine ⟨.inr ⟨5, false, _, rfl, ⟨⟨5, .guard⟩, by simp, rfl, rfl⟩, rfl, rfl, by decide, (fun v W h => h)⟩, fun bb hb1 hb2 a' W hB hold he K hK => ?_⟩
          obtain rfl := hb1 (by decide)
          obtain ⟨A1, c1, e1, r1⟩ : RowVal w.heap.size hs5 (a'.eval (.tmp 39)) W := he ⟨7, .data⟩ (by simp) rfl
          obtain ⟨A2, c2, e2, r2⟩ : RowVal w.heap.size hs5 (a'.eval (.tmp 43)) W := he ⟨11, .data⟩ (by simp) rfl
          exact wp_step_call 15 #[_, _] (by simp only [execOp, e1, e2]; simp [go_sem] <;> simp_all [Act.eval]) ((same_rows W _ _ hs5.length A1 A2 c1 c2 hs5 rfl hl5b r1 r2).mono (by
            rintro e3 w' ⟨rfl, hb⟩
            exact ⟨_, rfl, hK _ _ (.inr hb) (hB.below hb) rfl⟩))
        · refine ⟨.inr ⟨5, false, _, rfl, ⟨⟨5, .guard⟩, by simp, rfl, rfl⟩, rfl, rfl, by decide, (fun v W h => h)⟩, fun bb hb1 hb2 a' W hB hold he K hK => ?_⟩
          obtain rfl := hb1 (by decide)
          exact fx_not 4 (.tmp 44) _ rfl (he ⟨12, .data⟩ (by simp) rfl) (hK _ _ (.inr (Below.refl _ _)) hB rfl)
        · refine ⟨.inl rfl, fun bb hb1 hb2 a' W hB hold he K hK => ?_⟩
          obtain rfl := hb1 (by decide)
          exact fx_pick (.tmp 37) (.const (.bool true)) (.tmp 45) false _ rfl (he ⟨5, .data⟩ (by simp) rfl) (he ⟨13, .data⟩ (by simp) rfl) (hK _ _ (.inr (Below.refl _ _)) hB rfl)
        · refine ⟨.inl rfl, fun bb hb1 hb2 a' W hB hold he K hK => ?_⟩
          obtain rfl := hb1 (by decide)
          exact fx_move (.tmp 46) _ (.inl rfl) (he ⟨14, .data⟩ (by simp) rfl) (hK _ _ (.inr (Below.refl _ _)) hB rfl)
        · refine ⟨.inr ⟨15, false, _, rfl, ⟨⟨15, .guard⟩, by simp, rfl, rfl⟩, rfl, rfl, by decide, (fun v W h => h)⟩, fun bb hb1 hb2 a' W hB hold he K hK => ?_⟩
          obtain rfl := hb1 (by decide)
          exact fx_move (.tmp 3) _ (.inl rfl) (hold 3 (by decide)) (hK _ _ (.inr (Below.refl _ _)) hB rfl)
        · refine ⟨.inr ⟨15, false, _, rfl, ⟨⟨15, .guard⟩, by simp, rfl, rfl⟩, rfl, rfl, by decide, (fun v W h => h)⟩, fun bb hb1 hb2 a' W hB hold he K hK => ?_⟩
          obtain rfl := hb1 (by decide)
          exact (by have h0 : a'.eval (.tmp 48) = _ := (he ⟨16, .data⟩ (by simp) rfl); exact wp_step_call 12 #[_] (by simp only [execOp, h0]; simp [go_sem] <;> simp_all [Act.eval]) ((list_len_b _ W _ _ hs5 hB.1.1).mono (by rintro e1 w' ⟨rfl, hb⟩; exact ⟨_, rfl, hK _ _ (.inr hb) (hB.below hb) rfl⟩)))
        · refine ⟨.inr ⟨15, false, _, rfl, ⟨⟨15, .guard⟩, by simp, rfl, rfl⟩, rfl, rfl, by decide, (fun v W h => h)⟩, fun bb hb1 hb2 a' W hB hold he K hK => ?_⟩
          obtain rfl := hb1 (by decide)
          exact fx_move (.tmp 4) _ (.inl rfl) (hold 4 (by decide)) (hK _ _ (.inr (Below.refl _ _)) hB rfl)
        · refine ⟨.inr ⟨15, false, _, rfl, ⟨⟨15, .guard⟩, by simp, rfl, rfl⟩, rfl, rfl, by decide, (fun v W h => h)⟩, fun bb hb1 hb2 a' W hB hold he K hK => ?_⟩
          obtain rfl := hb1 (by decide)
          exact fx_nil (.tmp 50) _ rfl (he ⟨18, .data⟩ (by simp) rfl) (hK _ _ (.inr (Below.refl _ _)) hB rfl)
        · refine ⟨.inr ⟨15, false, _, rfl, ⟨⟨15, .guard⟩, by simp, rfl, rfl⟩, rfl, rfl, by decide, (fun v W h => h)⟩, fun bb hb1 hb2 a' W hB hold he K hK => ?_⟩
          obtain rfl := hb1 (by decide)
          exact fx_field 40 (.tmp 51) 0 _ _ rfl (he ⟨19, .data⟩ (by simp) rfl) (by kernel_rfl) (hK _ _ (.inr (Below.refl _ _)) hB rfl)
        · refine ⟨.inr ⟨15, false, _, rfl, ⟨⟨15, .guard⟩, by simp, rfl, rfl⟩, rfl, rfl, by decide, (fun v W h => h)⟩, fun bb hb1 hb2 a' W hB hold he K hK => ?_⟩
          obtain rfl := hb1 (by decide)
          obtain ⟨Ax, cx, hx, hrow⟩ := (show RefIs _ W x hs5 from hB.1.2).form
          exact wp_step_load 22 (.tmp 52) (.slice Ax hs5.length cx) rfl _ (he ⟨20, .data⟩ (by simp) rfl) (load_row W x _ (hx.cell 0)) (hK _ _ (.inr (Below.refl _ _)) hB ⟨Ax, cx, rfl, hrow⟩)
        · refine ⟨.inr ⟨15, false, _, rfl, ⟨⟨15, .guard⟩, by simp, rfl, rfl⟩, rfl, rfl, by decide, (fun v W h => h)⟩, fun bb hb1 hb2 a' W hB hold he K hK => ?_⟩
          obtain rfl := hb1 (by decide)
          obtain ⟨A1, c1, e1, _⟩ : RowVal w.heap.size hs5 (a'.eval (.tmp 53)) W := he ⟨21, .data⟩ (by simp) rfl
          have h1 : a'.tmps[53]?.getD undef = .slice A1 hs5.length c1 := (by simpa [Act.eval] using e1)
          exact wp_step_run (.int .i64 (hs5.length : Nat)) (by simp only [execOp]; simp [go_sem]; rw [h1]; rfl) (hK _ _ (.inr (Below.refl _ _)) hB rfl)
        · refine ⟨.inr ⟨15, false, _, rfl, ⟨⟨15, .guard⟩, by simp, rfl, rfl⟩, rfl, rfl, by decide, (fun v W h => h)⟩, fun bb hb1 hb2 a' W hB hold he K hK => ?_⟩
          obtain rfl := hb1 (by decide)
          exact fx_bin .neq 3 3 (.tmp 49) (.tmp 54) _ _ _ rfl (he ⟨17, .data⟩ (by simp) rfl) (he ⟨22, .data⟩ (by simp) rfl) rfl (neq_i _ _) (hK _ _ (.inr (Below.refl _ _)) hB rfl)
        · refine ⟨.inl rfl, fun bb hb1 hb2 a' W hB hold he K hK => ?_⟩
          obtain rfl := hb1 (by decide)
          exact fx_pick (.tmp 47) (.const (.bool true)) (.tmp 55) false _ rfl (he ⟨15, .data⟩ (by simp) rfl) (he ⟨23, .data⟩ (by simp) rfl) (hK _ _ (.inr (Below.refl _ _)) hB rfl)
        · refine ⟨.inl rfl, fun bb hb1 hb2 a' W hB hold he K hK => ?_⟩
          obtain rfl := hb1 (by decide)
          exact fx_move (.tmp 56) _ (.inl rfl) (he ⟨24, .data⟩ (by simp) rfl) (hK _ _ (.inr (Below.refl _ _)) hB rfl)
        · refine ⟨.inr ⟨25, false, _, rfl, ⟨⟨25, .guard⟩, by simp, rfl, rfl⟩, rfl, rfl, by decide, (fun v W h => h)⟩, fun bb hb1 hb2 a' W hB hold he K hK => ?_⟩
          obtain rfl := hb1 (by decide)
          exact fx_move (.tmp 3) _ (.inl rfl) (hold 3 (by decide)) (hK _ _ (.inr (Below.refl _ _)) hB rfl)
        · refine ⟨.inr ⟨25, false, _, rfl, ⟨⟨25, .guard⟩, by simp, rfl, rfl⟩, rfl, rfl, by decide, (fun v W h => h)⟩, fun bb hb1 hb2 a' W hB hold he K hK => ?_⟩
          obtain rfl := hb1 (by decide)
          exact fx_field 42 (.tmp 6) 1 _ _ rfl (hold 6 (by decide)) (by kernel_rfl) (hK _ _ (.inr (Below.refl _ _)) hB rfl)
        · refine ⟨.inr ⟨25, false, _, rfl, ⟨⟨25, .guard⟩, by simp, rfl, rfl⟩, rfl, rfl, by decide, (fun v W h => h)⟩, fun bb hb1 hb2 a' W hB hold he K hK => ?_⟩
          obtain rfl := hb1 (by decide)
          exact wp_step_load 29 (.tmp 59) _ rfl _ (he ⟨27, .data⟩ (by simp) rfl) (load_hcell W q 1 _ _ (hB.2.1.cell 1) (hB.2.1.cell 2)) (hK _ _ (.inr (Below.refl _ _)) hB rfl)
        · refine ⟨.inr ⟨25, false, _, rfl, ⟨⟨25, .guard⟩, by simp, rfl, rfl⟩, rfl, rfl, by decide, (fun v W h => h)⟩, fun bb hb1 hb2 a' W hB hold he K hK => ?_⟩
          obtain rfl := hb1 (by decide)
          exact (by have h0 : a'.eval (.tmp 58) = _ := (he ⟨26, .data⟩ (by simp) rfl); have h1 : a'.eval (.tmp 60) = _ := (he ⟨28, .data⟩ (by simp) rfl); exact wp_step_call 9 #[_, _] (by simp only [execOp, h0, h1]; simp [go_sem] <;> simp_all [Act.eval]) ((list_has _ W _ _ hs5 hB.1.1 (s, g) HPO.out).mono (by rintro e1 w' ⟨rfl, hb⟩; exact ⟨_, rfl, hK _ _ (.inr hb) (hB.below hb) rfl⟩)))
        · refine ⟨.inr ⟨25, false, _, rfl, ⟨⟨25, .guard⟩, by simp, rfl, rfl⟩, rfl, rfl, by decide, (fun v W h => h)⟩, fun bb hb1 hb2 a' W hB hold he K hK => ?_⟩
          obtain rfl := hb1 (by decide)
          exact fx_move (.tmp 4) _ (.inl rfl) (hold 4 (by decide)) (hK _ _ (.inr (Below.refl _ _)) hB rfl)
        · refine ⟨.inr ⟨25, false, _, rfl, ⟨⟨25, .guard⟩, by simp, rfl, rfl⟩, rfl, rfl, by decide, (fun v W h => h)⟩, fun bb hb1 hb2 a' W hB hold he K hK => ?_⟩
          obtain rfl := hb1 (by decide)
          exact fx_field 42 (.tmp 6) 1 _ _ rfl (hold 6 (by decide)) (by kernel_rfl) (hK _ _ (.inr (Below.refl _ _)) hB rfl)
        · refine ⟨.inr ⟨25, false, _, rfl, ⟨⟨25, .guard⟩, by simp, rfl, rfl⟩, rfl, rfl, by decide, (fun v W h => h)⟩, fun bb hb1 hb2 a' W hB hold he K hK => ?_⟩
          obtain rfl := hb1 (by decide)
          exact wp_step_load 29 (.tmp 63) _ rfl _ (he ⟨31, .data⟩ (by simp) rfl) (load_hcell W q 1 _ _ (hB.2.1.cell 1) (hB.2.1.cell 2)) (hK _ _ (.inr (Below.refl _ _)) hB rfl)
        · refine ⟨.inr ⟨25, false, _, rfl, ⟨⟨25, .guard⟩, by simp, rfl, rfl⟩, rfl, rfl, by decide, (fun v W h => h)⟩, fun bb hb1 hb2 a' W hB hold he K hK => ?_⟩
          obtain rfl := hb1 (by decide)
          exact (by have h0 : a'.eval (.tmp 62) = _ := (he ⟨30, .data⟩ (by simp) rfl); have h1 : a'.eval (.tmp 64) = _ := (he ⟨32, .data⟩ (by simp) rfl); exact wp_step_call 17 #[_, _] (by simp only [execOp, h0, h1]; simp [go_sem] <;> simp_all [Act.eval]) ((ref_at _ W _ hs5 hB.1.2 hl5b (s, g)).mono (by rintro e1 w' ⟨rfl, hb⟩; exact ⟨_, rfl, hK _ _ (.inr hb) (hB.below hb) rfl⟩)))
        · refine ⟨.inr ⟨25, false, _, rfl, ⟨⟨25, .guard⟩, by simp, rfl, rfl⟩, rfl, rfl, by decide, (fun v W h => h)⟩, fun bb hb1 hb2 a' W hB hold he K hK => ?_⟩
          obtain rfl := hb1 (by decide)
          exact fx_bin .geq 3 3 (.tmp 65) (.const (.int .i64 0)) _ _ _ rfl (he ⟨33, .data⟩ (by simp) rfl) rfl rfl (geq_at _ _ _) (hK _ _ (.inr (Below.refl _ _)) hB rfl)
        · refine ⟨.inr ⟨25, false, _, rfl, ⟨⟨25, .guard⟩, by simp, rfl, rfl⟩, rfl, rfl, by decide, (fun v W h => h)⟩, fun bb hb1 hb2 a' W hB hold he K hK => ?_⟩
          obtain rfl := hb1 (by decide)
          exact fx_bin .neq 4 4 (.tmp 61) (.tmp 66) _ _ _ rfl (he ⟨29, .data⟩ (by simp) rfl) (he ⟨34, .data⟩ (by simp) rfl) rfl (neq_b _ _) (hK _ _ (.inr (Below.refl _ _)) hB rfl)
      · intro vs W1 hI hlen hφ
        have hlen : vs.length = 36 := hlen
        obtain ⟨v0, vs, rfl⟩ := List.exists_cons_of_length_eq_add_one hlen
        have hlen : vs.length = 35 := Nat.succ.inj hlen
        obtain ⟨v1, vs, rfl⟩ := List.exists_cons_of_length_eq_add_one hlen
        have hlen : vs.length = 34 := Nat.succ.inj hlen
        obtain ⟨v2, vs, rfl⟩ := List.exists_cons_of_length_eq_add_one hlen
        have hlen : vs.length = 33 := Nat.succ.inj hlen
        obtain ⟨v3, vs, rfl⟩ := List.exists_cons_of_length_eq_add_one hlen
        have hlen : vs.length = 32 := Nat.succ.inj hlen
        obtain ⟨v4, vs, rfl⟩ := List.exists_cons_of_length_eq_add_one hlen
        have hlen : vs.length = 31 := Nat.succ.inj hlen
        obtain ⟨v5, vs, rfl⟩ := List.exists_cons_of_length_eq_add_one hlen
        have hlen : vs.length = 30 := Nat.succ.inj hlen
        obtain ⟨v6, vs, rfl⟩ := List.exists_cons_of_length_eq_add_one hlen
        have hlen : vs.length = 29 := Nat.succ.inj hlen
        obtain ⟨v7, vs, rfl⟩ := List.exists_cons_of_length_eq_add_one hlen
        have hlen : vs.length = 28 := Nat.succ.inj hlen
        obtain ⟨v8, vs, rfl⟩ := List.exists_cons_of_length_eq_add_one hlen
        have hlen : vs.length = 27 := Nat.succ.inj hlen
        obtain ⟨v9, vs, rfl⟩ := List.exists_cons_of_length_eq_add_one hlen
        have hlen : vs.length = 26 := Nat.succ.inj hlen
        obtain ⟨v10, vs, rfl⟩ := List.exists_cons_of_length_eq_add_one hlen
        have hlen : vs.length = 25 := Nat.succ.inj hlen
        obtain ⟨v11, vs, rfl⟩ := List.exists_cons_of_length_eq_add_one hlen
        have hlen : vs.length = 24 := Nat.succ.inj hlen
        obtain ⟨v12, vs, rfl⟩ := List.exists_cons_of_length_eq_add_one hlen
        have hlen : vs.length = 23 := Nat.succ.inj hlen
        obtain ⟨v13, vs, rfl⟩ := List.exists_cons_of_length_eq_add_one hlen
        have hlen : vs.length = 22 := Nat.succ.inj hlen
        obtain ⟨v14, vs, rfl⟩ := List.exists_cons_of_length_eq_add_one hlen
        have hlen : vs.length = 21 := Nat.succ.inj hlen
        obtain ⟨v15, vs, rfl⟩ := List.exists_cons_of_length_eq_add_one hlen
        have hlen : vs.length = 20 := Nat.succ.inj hlen
        obtain ⟨v16, vs, rfl⟩ := List.exists_cons_of_length_eq_add_one hlen
        have hlen : vs.length = 19 := Nat.succ.inj hlen
        obtain ⟨v17, vs, rfl⟩ := List.exists_cons_of_length_eq_add_one hlen
        have hlen : vs.length = 18 := Nat.succ.inj hlen
        obtain ⟨v18, vs, rfl⟩ := List.exists_cons_of_length_eq_add_one hlen
        have hlen : vs.length = 17 := Nat.succ.inj hlen
        obtain ⟨v19, vs, rfl⟩ := List.exists_cons_of_length_eq_add_one hlen
        have hlen : vs.length = 16 := Nat.succ.inj hlen
        obtain ⟨v20, vs, rfl⟩ := List.exists_cons_of_length_eq_add_one hlen
        have hlen : vs.length = 15 := Nat.succ.inj hlen
        obtain ⟨v21, vs, rfl⟩ := List.exists_cons_of_length_eq_add_one hlen
        have hlen : vs.length = 14 := Nat.succ.inj hlen
        obtain ⟨v22, vs, rfl⟩ := List.exists_cons_of_length_eq_add_one hlen
        have hlen : vs.length = 13 := Nat.succ.inj hlen
        obtain ⟨v23, vs, rfl⟩ := List.exists_cons_of_length_eq_add_one hlen
        have hlen : vs.length = 12 := Nat.succ.inj hlen
        obtain ⟨v24, vs, rfl⟩ := List.exists_cons_of_length_eq_add_one hlen
        have hlen : vs.length = 11 := Nat.succ.inj hlen
        obtain ⟨v25, vs, rfl⟩ := List.exists_cons_of_length_eq_add_one hlen
        have hlen : vs.length = 10 := Nat.succ.inj hlen
        obtain ⟨v26, vs, rfl⟩ := List.exists_cons_of_length_eq_add_one hlen
        have hlen : vs.length = 9 := Nat.succ.inj hlen
        obtain ⟨v27, vs, rfl⟩ := List.exists_cons_of_length_eq_add_one hlen
        have hlen : vs.length = 8 := Nat.succ.inj hlen
        obtain ⟨v28, vs, rfl⟩ := List.exists_cons_of_length_eq_add_one hlen
        have hlen : vs.length = 7 := Nat.succ.inj hlen
        obtain ⟨v29, vs, rfl⟩ := List.exists_cons_of_length_eq_add_one hlen
        have hlen : vs.length = 6 := Nat.succ.inj hlen
        obtain ⟨v30, vs, rfl⟩ := List.exists_cons_of_length_eq_add_one hlen
        have hlen : vs.length = 5 := Nat.succ.inj hlen
        obtain ⟨v31, vs, rfl⟩ := List.exists_cons_of_length_eq_add_one hlen
        have hlen : vs.length = 4 := Nat.succ.inj hlen
        obtain ⟨v32, vs, rfl⟩ := List.exists_cons_of_length_eq_add_one hlen
        have hlen : vs.length = 3 := Nat.succ.inj hlen
        obtain ⟨v33, vs, rfl⟩ := List.exists_cons_of_length_eq_add_one hlen
        have hlen : vs.length = 2 := Nat.succ.inj hlen
        obtain ⟨v34, vs, rfl⟩ := List.exists_cons_of_length_eq_add_one hlen
        have hlen : vs.length = 1 := Nat.succ.inj hlen
        obtain ⟨v35, vs, rfl⟩ := List.exists_cons_of_length_eq_add_one hlen
        have hlen : vs.length = 0 := Nat.succ.inj hlen
        obtain rfl := List.length_eq_zero_iff.1 hlen
        obtain rfl := hφ 0 _ rfl
        obtain rfl := hφ 1 _ rfl
        obtain rfl := hφ 2 _ rfl
        obtain rfl := hφ 3 _ rfl
        obtain rfl := hφ 4 _ rfl
        obtain rfl := hφ 5 _ rfl
        obtain rfl := hφ 6 _ rfl
        obtain ⟨A7, c7, rfl, _⟩ : RowVal w.heap.size hs5 v7 W1 := hφ 7 _ rfl
        obtain rfl := hφ 8 _ rfl
        obtain rfl := hφ 9 _ rfl
        obtain rfl := hφ 10 _ rfl
        obtain ⟨A11, c11, rfl, _⟩ : RowVal w.heap.size hs5 v11 W1 := hφ 11 _ rfl
        obtain rfl := hφ 12 _ rfl
        obtain rfl := hφ 13 _ rfl
        obtain rfl := hφ 14 _ rfl
        obtain rfl := hφ 15 _ rfl
        obtain rfl := hφ 16 _ rfl
        obtain rfl := hφ 17 _ rfl
        obtain rfl := hφ 18 _ rfl
        obtain rfl := hφ 19 _ rfl
        obtain rfl := hφ 20 _ rfl
        obtain ⟨A21, c21, rfl, _⟩ : RowVal w.heap.size hs5 v21 W1 := hφ 21 _ rfl
        obtain rfl := hφ 22 _ rfl
        obtain rfl := hφ 23 _ rfl
        obtain rfl := hφ 24 _ rfl
        obtain rfl := hφ 25 _ rfl
        obtain rfl := hφ 26 _ rfl
        obtain rfl := hφ 27 _ rfl
        obtain rfl := hφ 28 _ rfl
        obtain rfl := hφ 29 _ rfl
        obtain rfl := hφ 30 _ rfl
        obtain rfl := hφ 31 _ rfl
        obtain rfl := hφ 32 _ rfl
        obtain rfl := hφ 33 _ rfl
        obtain rfl := hφ 34 _ rfl
        obtain rfl := hφ 35 _ rfl
        have H5 := hide (show Both w.heap.size W1 b mb x hs5 from hI.1)
        have Q5 := hide hI.2.1
        have B5 := hide hI.2.2
        clear hI hφ hI0
        simp only [putAll, List.length_cons, List.length_nil, Nat.reduceAdd, List.drop_succ_cons, List.drop_zero]
        go_wp2_with fail
        go_loopw [7] (fun i wr => ∃ j : Nat, j ≤ 2 ∧ i = .int .i64 j ∧ Both w.heap.size wr b mb x hs5 ∧ Has wr q 42 #[.int .i64 d, .int .i64 s, .int .u64 g, .bool f] ∧ Below w.heap.size w wr) (fun i _ => 2 - (intOf i).toNat)
        case atStart => exact ⟨0, Nat.zero_le _, rfl, H5.out, Q5.out, B5.out⟩
        case round =>
          obtain ⟨j, hj, rfl, hH, hQ, hB⟩ := hrel
          by_cases hj2 : j < 2
          · have hdl2 : decide ((j : Int) < 2) = true := decide_eq_true (by omega)
            have hjw : IntKind.i64.wrap ((j : Int) + 1) = (j : Int) + 1 := wrap_i64 (by omega) (by omega)
            obtain ⟨fr, hfr⟩ : ∃ fr, fr = ((j : Int) == 0) := ⟨_, rfl⟩
            have hfr2 : ((j : Int) == 0) = fr := hfr.symm
            have G1 := list_peek _ wr b mb hs5 hH.1 fr
            have HH := hide hH
            have HQ := hide hQ
            have HB := hide hB
            clear hfr hH hQ hB
            by_cases hnil : hs5 = []
            · have he1 : endOf hs5 fr = none := by rw [hnil]; rfl
              rw [he1] at G1
              simp only [Option.getD, Option.isSome, hv] at G1
              have G1 := hide G1
              have HNIL := hide hnil
              clear he1 hnil
              go_wp2_with fail
              refine G1.out.mono ?_
              rintro e w3 ⟨rfl, t3⟩
              have BL := (Below.refl w3.heap.size w3).alloc (Nat.le_refl _) (.cells #[.int .i64 0, .int .u64 0] 29)
              have B3 := hide (below_on (below_on HB.out t3) BL)
              have H3 := hide ((HH.out.below t3).below BL)
              have Q3 := hide ((HQ.out.below t3 HQ.out.lt).below BL (HQ.out.below t3 HQ.out.lt).lt)
              have Y3 := hide (Has.new w3 29 #[.int .i64 0, .int .u64 0])
              clear t3 BL
              have GE := ref_end _ _ x hs5 H3.out.2 hl5b fr
              rw [if_pos HNIL.out] at GE
              have GE := hide GE
              go_wp2_with fail
              refine GE.out.mono ?_
              rintro e w4 ⟨rfl, t4⟩
              have B4 := hide (below_on B3.out t4)
              have H4 := hide (H3.out.below t4)
              have Q4 := hide (Q3.out.below t4 Q3.out.lt)
              have Y4 := hide (Y3.out.below t4 Y3.out.lt)
              clear t4
              go_wp2_with fail
              refine wp_region_fixed [84, 85, 86, 87, 88, 89, 90, 91, 92, 93, 94, 95, 96, 97, 98, 99, 100, 101, 102, 103, 104, 105, 106, 107, 108, 109]
                [.bool false, .int .i64 (-1), .bool false, .bool false, .bool false, .bool false, .bool false, undef, undef, undef, undef, undef, undef, undef, undef, undef, .bool false, .bool false, .bool false, .bool false, .bool true, .bool true, .agg #[.int .i64 0, .int .u64 0], .agg #[.int .i64 0, .int .u64 0], .bool false, .bool false] (by kernel_rfl) (by simp) rfl (by kernel_rfl) (by kernel_rfl) (by kernel_rfl) (by simp) (by decide) ?_ ?_
              · refine ⟨?_, ?_, ?_, ?_, ?_, ?_, ?_, ?_, ?_, ?_, ?_, ?_, ?_, ?_, ?_, ?_, ?_, ?_, ?_, ?_, ?_, ?_, ?_, ?_, ?_, ?_, trivial⟩
                · exact .inl ⟨.inl rfl, fun a' W hB hold he K hK => fx_move (.tmp 9) _ (.inl rfl) (hold 9 (by decide)) (hK _ (Below.refl _ _))⟩
                · exact .inl ⟨.inl rfl, fun a' W hB hold he K hK => fx_move (.tmp 10) _ (.inl rfl) (hold 10 (by decide)) (hK _ (Below.refl _ _))⟩
                · exact .inl ⟨.inl rfl, fun a' W hB hold he K hK => fx_bin .geq 3 3 (.tmp 85) (.const (.int .i64 0)) _ _ _ rfl (he ⟨1, .data⟩ (by simp) rfl) rfl rfl (by kernel_rfl) (hK _ (Below.refl _ _))⟩
                · exact .inl ⟨.inl rfl, fun a' W hB hold he K hK => fx_bin .neq 4 4 (.tmp 84) (.tmp 86) _ _ _ rfl (he ⟨0, .data⟩ (by simp) rfl) (he ⟨2, .data⟩ (by simp) rfl) (by kernel_rfl) (by kernel_rfl) (hK _ (Below.refl _ _))⟩
                · exact .inl ⟨.inl rfl, fun a' W hB hold he K hK => fx_move (.tmp 87) _ (.inl rfl) (he ⟨3, .data⟩ (by simp) rfl) (hK _ (Below.refl _ _))⟩
                · exact .inl ⟨.inr ⟨4, false, _, rfl, ⟨⟨4, .guard⟩, by simp, rfl, rfl⟩, rfl, rfl, by decide, rfl⟩, fun a' W hB hold he K hK => fx_move (.tmp 9) _ (.inl rfl) (hold 9 (by decide)) (hK _ (Below.refl _ _))⟩
                · exact .inl ⟨.inr ⟨4, false, _, rfl, ⟨⟨4, .guard⟩, by simp, rfl, rfl⟩, rfl, rfl, by decide, rfl⟩, fun a' W hB hold he K hK => fx_move (.tmp 89) _ (.inl rfl) (he ⟨5, .data⟩ (by simp) rfl) (hK _ (Below.refl _ _))⟩
                · exact .inr ⟨rfl, rfl, 6, true, _, rfl, ⟨⟨6, .guard⟩, by simp, rfl, rfl⟩, rfl, rfl, by decide, by intro h; cases h⟩
                · exact .inr ⟨rfl, rfl, 6, true, _, rfl, ⟨⟨6, .guard⟩, by simp, rfl, rfl⟩, rfl, rfl, by decide, by intro h; cases h⟩
                · exact .inr ⟨rfl, rfl, 6, true, _, rfl, ⟨⟨6, .guard⟩, by simp, rfl, rfl⟩, rfl, rfl, by decide, by intro h; cases h⟩
                · exact .inr ⟨rfl, rfl, 6, true, _, rfl, ⟨⟨6, .guard⟩, by simp, rfl, rfl⟩, rfl, rfl, by decide, by intro h; cases h⟩
                · exact .inr ⟨rfl, rfl, 6, true, _, rfl, ⟨⟨6, .guard⟩, by simp, rfl, rfl⟩, rfl, rfl, by decide, by intro h; cases h⟩
                · exact .inr ⟨rfl, rfl, 6, true, _, rfl, ⟨⟨6, .guard⟩, by simp, rfl, rfl⟩, rfl, rfl, by decide, by intro h; cases h⟩
                · exact .inr ⟨rfl, rfl, 6, true, _, rfl, ⟨⟨6, .guard⟩, by simp, rfl, rfl⟩, rfl, rfl, by decide, by intro h; cases h⟩
                · exact .inr ⟨rfl, rfl, 6, true, _, rfl, ⟨⟨6, .guard⟩, by simp, rfl, rfl⟩, rfl, rfl, by decide, by intro h; cases h⟩
                · exact .inr ⟨rfl, rfl, 6, true, _, rfl, ⟨⟨6, .guard⟩, by simp, rfl, rfl⟩, rfl, rfl, by decide, by intro h; cases h⟩
                · exact .inl ⟨.inr ⟨4, false, _, rfl, ⟨⟨4, .guard⟩, by simp, rfl, rfl⟩, rfl, rfl, by decide, rfl⟩, fun a' W hB hold he K hK => fx_pick (.tmp 90) (.tmp 99) (.const (.bool false)) false _ rfl (he ⟨6, .data⟩ (by simp) rfl) rfl (hK _ (Below.refl _ _))⟩
                · exact .inl ⟨.inl rfl, fun a' W hB hold he K hK => fx_pick (.tmp 88) (.const (.bool true)) (.tmp 100) false _ rfl (he ⟨4, .data⟩ (by simp) rfl) (he ⟨16, .data⟩ (by simp) rfl) (hK _ (Below.refl _ _))⟩
                · exact .inl ⟨.inl rfl, fun a' W hB hold he K hK => fx_move (.tmp 101) _ (.inl rfl) (he ⟨17, .data⟩ (by simp) rfl) (hK _ (Below.refl _ _))⟩
                · exact .inl ⟨.inr ⟨18, false, _, rfl, ⟨⟨18, .guard⟩, by simp, rfl, rfl⟩, rfl, rfl, by decide, rfl⟩, fun a' W hB hold he K hK => fx_move (.tmp 9) _ (.inl rfl) (hold 9 (by decide)) (hK _ (Below.refl _ _))⟩
                · exact .inl ⟨.inr ⟨18, false, _, rfl, ⟨⟨18, .guard⟩, by simp, rfl, rfl⟩, rfl, rfl, by decide, rfl⟩, fun a' W hB hold he K hK => fx_not 4 (.tmp 103) _ rfl (he ⟨19, .data⟩ (by simp) rfl) (hK _ (Below.refl _ _))⟩
                · exact .inl ⟨.inr ⟨18, false, _, rfl, ⟨⟨18, .guard⟩, by simp, rfl, rfl⟩, rfl, rfl, by decide, rfl⟩, fun a' W hB hold he K hK => fx_move (.tmp 104) _ (.inl rfl) (he ⟨20, .data⟩ (by simp) rfl) (hK _ (Below.refl _ _))⟩
                · exact .inl ⟨.inr ⟨21, true, _, rfl, ⟨⟨21, .guard⟩, by simp, rfl, rfl⟩, rfl, rfl, by decide, rfl⟩, fun a' W hB hold he K hK => wp_step_load 29 (.tmp 8) _ rfl _ (hold 8 (by decide)) (load_h W _ _ _ (Y4.out.below hB Y4.out.lt)) (hK _ (Below.refl _ _))⟩
                · exact .inl ⟨.inr ⟨21, true, _, rfl, ⟨⟨21, .guard⟩, by simp, rfl, rfl⟩, rfl, rfl, by decide, rfl⟩, fun a' W hB hold he K hK => wp_step_run (.agg #[.int .i64 0, .int .u64 0]) (by kernel_rfl) (hK _ (Below.refl _ _))⟩
                · exact .inl ⟨.inr ⟨21, true, _, rfl, ⟨⟨21, .guard⟩, by simp, rfl, rfl⟩, rfl, rfl, by decide, rfl⟩, fun a' W hB hold he K hK => fx_bin .neq 29 29 (.tmp 106) (.tmp 107) _ _ _ rfl (he ⟨22, .data⟩ (by simp) rfl) (he ⟨23, .data⟩ (by simp) rfl) (by kernel_rfl) (by kernel_rfl) (hK _ (Below.refl _ _))⟩
                · exact .inl ⟨.inr ⟨18, false, _, rfl, ⟨⟨18, .guard⟩, by simp, rfl, rfl⟩, rfl, rfl, by decide, rfl⟩, fun a' W hB hold he K hK => fx_pick (.tmp 105) (.tmp 108) (.const (.bool false)) true _ rfl (he ⟨21, .data⟩ (by simp) rfl) (he ⟨24, .data⟩ (by simp) rfl) (hK _ (Below.refl _ _))⟩
              intro W6 hb6
              have H6 := hide (H4.out.below hb6)
              have Q6 := hide (Q4.out.below hb6 Q4.out.lt)
              have B6 := hide (below_on B4.out hb6)
              clear hb6
              simp only [putAll, List.length_cons, List.length_nil, Nat.reduceAdd, List.drop_succ_cons, List.drop_zero]
              go_wp2_with fail
              go_roundw
              case rel => exact ⟨j + 1, by omega, rfl, H6.out, Q6.out, B6.out⟩
              case measure => simp [intOf]; omega
            · obtain ⟨p, hp⟩ : ∃ p, hs5[endAt hs5 fr]? = some p := ⟨_, List.getElem?_eq_getElem (endAt_lt hnil fr)⟩
              have he1 : endOf hs5 fr = some p := hp
              obtain ⟨s1, g1⟩ := p
              rw [he1] at G1
              simp only [Option.getD, Option.isSome, hv] at G1
              have G1 := hide G1
              have hlt5 := endAt_lt hnil fr
              have HEE := fun W h => ref_end w.heap.size W x hs5 h hl5b fr
              simp only [if_neg hnil] at HEE
              obtain ⟨E, hE⟩ : ∃ E, E = endAt hs5 fr := ⟨_, rfl⟩
              simp only [← hE] at HEE hp hlt5
              have HEE := hide HEE
              have HP := hide hp
              clear he1 hp hE hnil
              go_wp2_with fail
              refine G1.out.mono ?_
              rintro e w3 ⟨rfl, t3⟩
              have BL := (Below.refl w3.heap.size w3).alloc (Nat.le_refl _) (.cells #[.int .i64 s1, .int .u64 g1] 29)
              have B3 := hide (below_on (below_on HB.out t3) BL)
              have H3 := hide ((HH.out.below t3).below BL)
              have Q3 := hide ((HQ.out.below t3 HQ.out.lt).below BL (HQ.out.below t3 HQ.out.lt).lt)
              have Y3 := hide (Has.new w3 29 #[.int .i64 s1, .int .u64 g1])
              clear t3 BL
              have GE := hide (HEE.out _ H3.out.2)
              go_wp2_with fail
              refine GE.out.mono ?_
              rintro e w4 ⟨rfl, t4⟩
              have B4 := hide (below_on B3.out t4)
              have H4 := hide (H3.out.below t4)
              have Q4 := hide (Q3.out.below t4 Q3.out.lt)
              have Y4 := hide (Y3.out.below t4 Y3.out.lt)
              clear t4
              go_wp2_with fail
              obtain ⟨Ax, cx, hx4, hrow4⟩ := H4.out.2.form
              obtain ⟨g0, cap, hv0, _, _⟩ := row_at hrow4 HP.out
              injection hv0 with hz1 hz2 hz3
              subst hz1
              have HX := hide hx4
              have HROW := hide hrow4
              have hEi : (E : Int) < (hs5.length : Nat) := by omega
              have hge : ∀ W : World, (binOp .geq 3 (.int .i64 (E : Int)) (.int .i64 0)).run Try.prog W = .ok (.bool true) W := fun W => geq_nat W E
              clear hz2 hz3 hx4 hrow4
              refine wp_region_fixed [84, 85, 86, 87, 88, 89, 90, 91, 92, 93, 94, 95, 96, 97, 98, 99, 100, 101, 102, 103, 104, 105, 106, 107, 108, 109]
                [.bool true, .int .i64 (E : Int), .bool true, .bool false, .bool false, .bool true, .bool true, .agg #[.int .i64 s1, .int .u64 g1], .pointer (some ⟨x, 0, none⟩), .pointer (some ⟨x, 0, none⟩), .pointer (some ⟨x, 0, none⟩), .slice (some ⟨g0, 0, none⟩) hs5.length cx, .int .i64 (E : Int), .pointer (some ⟨g0, E * 2, none⟩), .agg #[.int .i64 s1, .int .u64 g1], .bool false, .bool false, .bool false, .bool false, .bool true, .bool false, .bool false, undef, undef, undef, .bool false] (by kernel_rfl) (by simp) rfl (by kernel_rfl) (by kernel_rfl) (by kernel_rfl) (by simp) (by decide) ?_ ?_
              · refine ⟨?_, ?_, ?_, ?_, ?_, ?_, ?_, ?_, ?_, ?_, ?_, ?_, ?_, ?_, ?_, ?_, ?_, ?_, ?_, ?_, ?_, ?_, ?_, ?_, ?_, ?_, trivial⟩
                · exact .inl ⟨.inl rfl, fun a' W hB hold he K hK => fx_move (.tmp 9) _ (.inl rfl) (hold 9 (by decide)) (hK _ (Below.refl _ _))⟩
                · exact .inl ⟨.inl rfl, fun a' W hB hold he K hK => fx_move (.tmp 10) _ (.inl rfl) (hold 10 (by decide)) (hK _ (Below.refl _ _))⟩
                · exact .inl ⟨.inl rfl, fun a' W hB hold he K hK => fx_bin .geq 3 3 (.tmp 85) (.const (.int .i64 0)) _ _ _ rfl (he ⟨1, .data⟩ (by simp) rfl) rfl rfl (hge _) (hK _ (Below.refl _ _))⟩
                · exact .inl ⟨.inl rfl, fun a' W hB hold he K hK => fx_bin .neq 4 4 (.tmp 84) (.tmp 86) _ _ _ rfl (he ⟨0, .data⟩ (by simp) rfl) (he ⟨2, .data⟩ (by simp) rfl) (by kernel_rfl) (by kernel_rfl) (hK _ (Below.refl _ _))⟩
                · exact .inl ⟨.inl rfl, fun a' W hB hold he K hK => fx_move (.tmp 87) _ (.inl rfl) (he ⟨3, .data⟩ (by simp) rfl) (hK _ (Below.refl _ _))⟩
                · exact .inl ⟨.inr ⟨4, false, _, rfl, ⟨⟨4, .guard⟩, by simp, rfl, rfl⟩, rfl, rfl, by decide, rfl⟩, fun a' W hB hold he K hK => fx_move (.tmp 9) _ (.inl rfl) (hold 9 (by decide)) (hK _ (Below.refl _ _))⟩
                · exact .inl ⟨.inr ⟨4, false, _, rfl, ⟨⟨4, .guard⟩, by simp, rfl, rfl⟩, rfl, rfl, by decide, rfl⟩, fun a' W hB hold he K hK => fx_move (.tmp 89) _ (.inl rfl) (he ⟨5, .data⟩ (by simp) rfl) (hK _ (Below.refl _ _))⟩
                · exact .inl ⟨.inr ⟨6, true, _, rfl, ⟨⟨6, .guard⟩, by simp, rfl, rfl⟩, rfl, rfl, by decide, rfl⟩, fun a' W hB hold he K hK => wp_step_load 29 (.tmp 8) _ rfl _ (hold 8 (by decide)) (load_h W _ _ _ (Y4.out.below hB Y4.out.lt)) (hK _ (Below.refl _ _))⟩
                · exact .inl ⟨.inr ⟨6, true, _, rfl, ⟨⟨6, .guard⟩, by simp, rfl, rfl⟩, rfl, rfl, by decide, rfl⟩, fun a' W hB hold he K hK => fx_move (.tmp 4) _ (.inl rfl) (hold 4 (by decide)) (hK _ (Below.refl _ _))⟩
                · exact .inl ⟨.inr ⟨6, true, _, rfl, ⟨⟨6, .guard⟩, by simp, rfl, rfl⟩, rfl, rfl, by decide, rfl⟩, fun a' W hB hold he K hK => fx_nil (.tmp 92) _ rfl (he ⟨8, .data⟩ (by simp) rfl) (hK _ (Below.refl _ _))⟩
                · exact .inl ⟨.inr ⟨6, true, _, rfl, ⟨⟨6, .guard⟩, by simp, rfl, rfl⟩, rfl, rfl, by decide, rfl⟩, fun a' W hB hold he K hK => fx_field 40 (.tmp 93) 0 _ _ rfl (he ⟨9, .data⟩ (by simp) rfl) (by kernel_rfl) (hK _ (Below.refl _ _))⟩
                · exact .inl ⟨.inr ⟨6, true, _, rfl, ⟨⟨6, .guard⟩, by simp, rfl, rfl⟩, rfl, rfl, by decide, rfl⟩, fun a' W hB hold he K hK => wp_step_load 22 (.tmp 94) _ rfl _ (he ⟨10, .data⟩ (by simp) rfl) (load_row W x _ ((HX.out.below hB HX.out.lt).cell 0)) (hK _ (Below.refl _ _))⟩
                · exact .inl ⟨.inr ⟨6, true, _, rfl, ⟨⟨6, .guard⟩, by simp, rfl, rfl⟩, rfl, rfl, by decide, rfl⟩, fun a' W hB hold he K hK => fx_move (.tmp 10) _ (.inl rfl) (hold 10 (by decide)) (hK _ (Below.refl _ _))⟩
                · exact .inl ⟨.inr ⟨6, true, _, rfl, ⟨⟨6, .guard⟩, by simp, rfl, rfl⟩, rfl, rfl, by decide, rfl⟩, fun a' W hB hold he K hK => (by have h0 : a'.eval (.tmp 95) = _ := (he ⟨11, .data⟩ (by simp) rfl); have h1 : a'.eval (.tmp 96) = _ := (he ⟨12, .data⟩ (by simp) rfl); exact wp_step_run (.pointer (some ⟨g0, E * 2, none⟩)) (by simp only [execOp, h0, h1]; go_simp) (hK _ (Below.refl _ _)))⟩
                · exact .inl ⟨.inr ⟨6, true, _, rfl, ⟨⟨6, .guard⟩, by simp, rfl, rfl⟩, rfl, rfl, by decide, rfl⟩, fun a' W hB hold he K hK => wp_step_load 29 (.tmp 97) _ rfl _ (he ⟨13, .data⟩ (by simp) rfl) (load_hcell W _ _ _ _ (row_cell (row_below HROW.out hB) HP.out).1 (row_cell (row_below HROW.out hB) HP.out).2) (hK _ (Below.refl _ _))⟩
                · exact .inl ⟨.inr ⟨6, true, _, rfl, ⟨⟨6, .guard⟩, by simp, rfl, rfl⟩, rfl, rfl, by decide, rfl⟩, fun a' W hB hold he K hK => fx_bin .neq 29 29 (.tmp 91) (.tmp 98) _ _ _ rfl (he ⟨7, .data⟩ (by simp) rfl) (he ⟨14, .data⟩ (by simp) rfl) (neq_hg _ _ _ _ _) (neq_h _ _ _) (hK _ (Below.refl _ _))⟩
                · exact .inl ⟨.inr ⟨4, false, _, rfl, ⟨⟨4, .guard⟩, by simp, rfl, rfl⟩, rfl, rfl, by decide, rfl⟩, fun a' W hB hold he K hK => fx_pick (.tmp 90) (.tmp 99) (.const (.bool false)) true _ rfl (he ⟨6, .data⟩ (by simp) rfl) (he ⟨15, .data⟩ (by simp) rfl) (hK _ (Below.refl _ _))⟩
                · exact .inl ⟨.inl rfl, fun a' W hB hold he K hK => fx_pick (.tmp 88) (.const (.bool true)) (.tmp 100) false _ rfl (he ⟨4, .data⟩ (by simp) rfl) (he ⟨16, .data⟩ (by simp) rfl) (hK _ (Below.refl _ _))⟩
                · exact .inl ⟨.inl rfl, fun a' W hB hold he K hK => fx_move (.tmp 101) _ (.inl rfl) (he ⟨17, .data⟩ (by simp) rfl) (hK _ (Below.refl _ _))⟩
                · exact .inl ⟨.inr ⟨18, false, _, rfl, ⟨⟨18, .guard⟩, by simp, rfl, rfl⟩, rfl, rfl, by decide, rfl⟩, fun a' W hB hold he K hK => fx_move (.tmp 9) _ (.inl rfl) (hold 9 (by decide)) (hK _ (Below.refl _ _))⟩
                · exact .inl ⟨.inr ⟨18, false, _, rfl, ⟨⟨18, .guard⟩, by simp, rfl, rfl⟩, rfl, rfl, by decide, rfl⟩, fun a' W hB hold he K hK => fx_not 4 (.tmp 103) _ rfl (he ⟨19, .data⟩ (by simp) rfl) (hK _ (Below.refl _ _))⟩
                · exact .inl ⟨.inr ⟨18, false, _, rfl, ⟨⟨18, .guard⟩, by simp, rfl, rfl⟩, rfl, rfl, by decide, rfl⟩, fun a' W hB hold he K hK => fx_move (.tmp 104) _ (.inl rfl) (he ⟨20, .data⟩ (by simp) rfl) (hK _ (Below.refl _ _))⟩
                · exact .inr ⟨rfl, rfl, 21, true, _, rfl, ⟨⟨21, .guard⟩, by simp, rfl, rfl⟩, rfl, rfl, by decide, by intro h; cases h⟩
                · exact .inr ⟨rfl, rfl, 21, true, _, rfl, ⟨⟨21, .guard⟩, by simp, rfl, rfl⟩, rfl, rfl, by decide, by intro h; cases h⟩
                · exact .inr ⟨rfl, rfl, 21, true, _, rfl, ⟨⟨21, .guard⟩, by simp, rfl, rfl⟩, rfl, rfl, by decide, by intro h; cases h⟩
                · exact .inl ⟨.inr ⟨18, false, _, rfl, ⟨⟨18, .guard⟩, by simp, rfl, rfl⟩, rfl, rfl, by decide, rfl⟩, fun a' W hB hold he K hK => fx_pick (.tmp 105) (.tmp 108) (.const (.bool false)) false _ rfl (he ⟨21, .data⟩ (by simp) rfl) rfl (hK _ (Below.refl _ _))⟩
              intro W6 hb6
              have H6 := hide (H4.out.below hb6)
              have Q6 := hide (Q4.out.below hb6 Q4.out.lt)
              have B6 := hide (below_on B4.out hb6)
              clear hb6
              simp only [putAll, List.length_cons, List.length_nil, Nat.reduceAdd, List.drop_succ_cons, List.drop_zero]
              go_wp2_with fail
              go_roundw
              case rel => exact ⟨j + 1, by omega, rfl, H6.out, Q6.out, B6.out⟩
              case measure => simp [intOf]; omega
          · have hj3 : j = 2 := by omega
            subst hj3
            have G1 := list_next _ wr b mb hs5 hH.1 (s, g) HPO.out
            have c1 : wr.cell? ⟨q, 1, none⟩ = some (.int .i64 s) := hQ.cell 1
            have c2 : wr.cell? ⟨q, 2, none⟩ = some (.int .u64 g) := hQ.cell 2
            have HH := hide hH
            have HQ := hide hQ
            have HB := hide hB
            have HEA := fun W h => ref_at w.heap.size W x hs5 h hl5b (s, g)
            clear hH hQ hB
            cases hat : hAt hs5 (s, g) with
            | none =>
              have hx1 : nextOf hs5 (s, g) = none := by unfold nextOf; rw [hat]; rfl
              have hx2 : atOf hs5 (s, g) = -1 := by unfold atOf; rw [hat]
              rw [hx1] at G1
              simp only [hx2] at HEA
              simp only [Option.getD, Option.isSome, hv] at G1
              have G1 := hide G1
              have HEA := hide HEA
              clear hx1 hx2 hat
              go_wp2_with fail
              refine G1.out.mono ?_
              rintro e w3 ⟨rfl, t3⟩
              have BL := (Below.refl w3.heap.size w3).alloc (Nat.le_refl _) (.cells #[.int .i64 0, .int .u64 0] 29)
              have B3 := hide (below_on (below_on HB.out t3) BL)
              have H3 := hide ((HH.out.below t3).below BL)
              have hQ3 := (HQ.out.below t3 HQ.out.lt).below BL (HQ.out.below t3 HQ.out.lt).lt
              have d1 : (w3.alloc (.cells #[.int .i64 0, .int .u64 0] 29)).cell? ⟨q, 1, none⟩ = some (.int .i64 s) := hQ3.cell 1
              have d2 : (w3.alloc (.cells #[.int .i64 0, .int .u64 0] 29)).cell? ⟨q, 2, none⟩ = some (.int .u64 g) := hQ3.cell 2
              have Y3 := hide (Has.new w3 29 #[.int .i64 0, .int .u64 0])
              clear t3 BL c1 c2 hQ3
              go_wp2_with fail
              refine (HEA.out _ H3.out.2).mono ?_
              rintro e w4 ⟨rfl, t4⟩
              have B4 := hide (below_on B3.out t4)
              have H4 := hide (H3.out.below t4)
              have Y4 := hide (Y3.out.below t4 Y3.out.lt)
              obtain ⟨Ax, cx, hx4, hrow4⟩ := H4.out.2.form
              have x4 : w4.cell? ⟨x, 0, none⟩ = some (.slice Ax hs5.length cx) := hx4.cell 0
              have HX := hide hx4
              have HROW := hide hrow4
              clear t4 d1 d2 hx4 hrow4
              go_wp2_with fail
              refine wp_region_fixed [134, 135, 136, 137, 138, 139, 140, 141, 142, 143, 144, 145, 146, 147, 148, 149, 150, 151, 152, 153, 154, 155, 156, 157, 158, 159]
                [.bool false, .bool false, .bool false, .bool false, .bool false, .bool false, undef, undef, undef, undef, undef, undef, undef, undef, undef, undef, .bool false, .bool false, .bool false, .bool false, .bool true, .bool true, .agg #[.int .i64 0, .int .u64 0], .agg #[.int .i64 0, .int .u64 0], .bool false, .bool false] (by kernel_rfl) (by simp) rfl (by kernel_rfl) (by kernel_rfl) (by kernel_rfl) (by simp) (by decide) ?_ ?_
              · refine ⟨?_, ?_, ?_, ?_, ?_, ?_, ?_, ?_, ?_, ?_, ?_, ?_, ?_, ?_, ?_, ?_, ?_, ?_, ?_, ?_, ?_, ?_, ?_, ?_, ?_, ?_, trivial⟩
                · exact .inl ⟨.inl rfl, fun a' W hB hold he K hK => fx_move (.tmp 12) _ (.inl rfl) (hold 12 (by decide)) (hK _ (Below.refl _ _))⟩
                · exact .inl ⟨.inl rfl, fun a' W hB hold he K hK => fx_move (.tmp 14) _ (.inl rfl) (hold 14 (by decide)) (hK _ (Below.refl _ _))⟩
                · exact .inl ⟨.inl rfl, fun a' W hB hold he K hK => fx_bin .neq 4 4 (.tmp 134) (.tmp 135) _ _ _ rfl (he ⟨0, .data⟩ (by simp) rfl) (he ⟨1, .data⟩ (by simp) rfl) (by kernel_rfl) (by kernel_rfl) (hK _ (Below.refl _ _))⟩
                · exact .inl ⟨.inl rfl, fun a' W hB hold he K hK => fx_move (.tmp 136) _ (.inl rfl) (he ⟨2, .data⟩ (by simp) rfl) (hK _ (Below.refl _ _))⟩
                · exact .inl ⟨.inr ⟨3, false, _, rfl, ⟨⟨3, .guard⟩, by simp, rfl, rfl⟩, rfl, rfl, by decide, rfl⟩, fun a' W hB hold he K hK => fx_move (.tmp 12) _ (.inl rfl) (hold 12 (by decide)) (hK _ (Below.refl _ _))⟩
                · exact .inl ⟨.inr ⟨3, false, _, rfl, ⟨⟨3, .guard⟩, by simp, rfl, rfl⟩, rfl, rfl, by decide, rfl⟩, fun a' W hB hold he K hK => fx_move (.tmp 138) _ (.inl rfl) (he ⟨4, .data⟩ (by simp) rfl) (hK _ (Below.refl _ _))⟩
                · exact .inr ⟨rfl, rfl, 5, true, _, rfl, ⟨⟨5, .guard⟩, by simp, rfl, rfl⟩, rfl, rfl, by decide, by intro h; cases h⟩
                · exact .inr ⟨rfl, rfl, 5, true, _, rfl, ⟨⟨5, .guard⟩, by simp, rfl, rfl⟩, rfl, rfl, by decide, by intro h; cases h⟩
                · exact .inr ⟨rfl, rfl, 5, true, _, rfl, ⟨⟨5, .guard⟩, by simp, rfl, rfl⟩, rfl, rfl, by decide, by intro h; cases h⟩
                · exact .inr ⟨rfl, rfl, 5, true, _, rfl, ⟨⟨5, .guard⟩, by simp, rfl, rfl⟩, rfl, rfl, by decide, by intro h; cases h⟩
                · exact .inr ⟨rfl, rfl, 5, true, _, rfl, ⟨⟨5, .guard⟩, by simp, rfl, rfl⟩, rfl, rfl, by decide, by intro h; cases h⟩
                · exact .inr ⟨rfl, rfl, 5, true, _, rfl, ⟨⟨5, .guard⟩, by simp, rfl, rfl⟩, rfl, rfl, by decide, by intro h; cases h⟩
                · exact .inr ⟨rfl, rfl, 5, true, _, rfl, ⟨⟨5, .guard⟩, by simp, rfl, rfl⟩, rfl, rfl, by decide, by intro h; cases h⟩
                · exact .inr ⟨rfl, rfl, 5, true, _, rfl, ⟨⟨5, .guard⟩, by simp, rfl, rfl⟩, rfl, rfl, by decide, by intro h; cases h⟩
                · exact .inr ⟨rfl, rfl, 5, true, _, rfl, ⟨⟨5, .guard⟩, by simp, rfl, rfl⟩, rfl, rfl, by decide, by intro h; cases h⟩
                · exact .inr ⟨rfl, rfl, 5, true, _, rfl, ⟨⟨5, .guard⟩, by simp, rfl, rfl⟩, rfl, rfl, by decide, by intro h; cases h⟩
                · exact .inl ⟨.inr ⟨3, false, _, rfl, ⟨⟨3, .guard⟩, by simp, rfl, rfl⟩, rfl, rfl, by decide, rfl⟩, fun a' W hB hold he K hK => fx_pick (.tmp 139) (.tmp 149) (.const (.bool false)) false _ rfl (he ⟨5, .data⟩ (by simp) rfl) rfl (hK _ (Below.refl _ _))⟩
                · exact .inl ⟨.inl rfl, fun a' W hB hold he K hK => fx_pick (.tmp 137) (.const (.bool true)) (.tmp 150) false _ rfl (he ⟨3, .data⟩ (by simp) rfl) (he ⟨16, .data⟩ (by simp) rfl) (hK _ (Below.refl _ _))⟩
                · exact .inl ⟨.inl rfl, fun a' W hB hold he K hK => fx_move (.tmp 151) _ (.inl rfl) (he ⟨17, .data⟩ (by simp) rfl) (hK _ (Below.refl _ _))⟩
                · exact .inl ⟨.inr ⟨18, false, _, rfl, ⟨⟨18, .guard⟩, by simp, rfl, rfl⟩, rfl, rfl, by decide, rfl⟩, fun a' W hB hold he K hK => fx_move (.tmp 12) _ (.inl rfl) (hold 12 (by decide)) (hK _ (Below.refl _ _))⟩
                · exact .inl ⟨.inr ⟨18, false, _, rfl, ⟨⟨18, .guard⟩, by simp, rfl, rfl⟩, rfl, rfl, by decide, rfl⟩, fun a' W hB hold he K hK => fx_not 4 (.tmp 153) _ rfl (he ⟨19, .data⟩ (by simp) rfl) (hK _ (Below.refl _ _))⟩
                · exact .inl ⟨.inr ⟨18, false, _, rfl, ⟨⟨18, .guard⟩, by simp, rfl, rfl⟩, rfl, rfl, by decide, rfl⟩, fun a' W hB hold he K hK => fx_move (.tmp 154) _ (.inl rfl) (he ⟨20, .data⟩ (by simp) rfl) (hK _ (Below.refl _ _))⟩
                · exact .inl ⟨.inr ⟨21, true, _, rfl, ⟨⟨21, .guard⟩, by simp, rfl, rfl⟩, rfl, rfl, by decide, rfl⟩, fun a' W hB hold he K hK => wp_step_load 29 (.tmp 11) _ rfl _ (hold 11 (by decide)) (load_h W _ _ _ (Y4.out.below hB Y4.out.lt)) (hK _ (Below.refl _ _))⟩
                · exact .inl ⟨.inr ⟨21, true, _, rfl, ⟨⟨21, .guard⟩, by simp, rfl, rfl⟩, rfl, rfl, by decide, rfl⟩, fun a' W hB hold he K hK => wp_step_run (.agg #[.int .i64 0, .int .u64 0]) (by kernel_rfl) (hK _ (Below.refl _ _))⟩
                · exact .inl ⟨.inr ⟨21, true, _, rfl, ⟨⟨21, .guard⟩, by simp, rfl, rfl⟩, rfl, rfl, by decide, rfl⟩, fun a' W hB hold he K hK => fx_bin .neq 29 29 (.tmp 156) (.tmp 157) _ _ _ rfl (he ⟨22, .data⟩ (by simp) rfl) (he ⟨23, .data⟩ (by simp) rfl) (by kernel_rfl) (by kernel_rfl) (hK _ (Below.refl _ _))⟩
                · exact .inl ⟨.inr ⟨18, false, _, rfl, ⟨⟨18, .guard⟩, by simp, rfl, rfl⟩, rfl, rfl, by decide, rfl⟩, fun a' W hB hold he K hK => fx_pick (.tmp 155) (.tmp 158) (.const (.bool false)) true _ rfl (he ⟨21, .data⟩ (by simp) rfl) (he ⟨24, .data⟩ (by simp) rfl) (hK _ (Below.refl _ _))⟩
              intro W6 hb6
              have H6 := hide (H4.out.below hb6)
              have B6 := hide (below_on B4.out hb6)
              clear hb6
              simp only [putAll, List.length_cons, List.length_nil, Nat.reduceAdd, List.drop_succ_cons, List.drop_zero]
              go_wp2_with fail
              go_roundw
              case rel => exact ⟨k + 1, hs5, by omega, rfl, HL5.out, H6.out, B6.out⟩
              case measure => simp [intOf]; omega
            | some i =>
              have hil := (List.getElem?_eq_some_iff.1 (hAt_some hat)).1
              have hx1 : nextOf hs5 (s, g) = hs5[i + 1]? := by unfold nextOf; rw [hat]; rfl
              have hx2 : atOf hs5 (s, g) = i := by unfold atOf; rw [hat]
              rw [hx1] at G1
              simp only [hx2] at HEA
              have hi0 : decide (0 ≤ (i : Int)) = true := decide_eq_true (by omega)
              have hiw : IntKind.i64.wrap ((i : Int) + 1) = ((i + 1 : Nat) : Int) := by rw [wrap_i64 (by omega) (by omega)]; rfl
              have HEA := hide HEA
              cases hp2 : hs5[i + 1]? with
              | none =>
                have hle := List.getElem?_eq_none_iff.1 hp2
                have hi1 : decide (((i + 1 : Nat) : Int) < ((hs5.length : Nat) : Int)) = false := decide_eq_false (by omega)
                have hi1a : decide ((i : Int) + 1 < ((hs5.length : Nat) : Int)) = false := decide_eq_false (by omega)
                have hi1b : decide (i + 1 < hs5.length) = false := decide_eq_false (by omega)
                rw [hp2] at G1
                simp only [Option.getD, Option.isSome, hv] at G1
                have G1 := hide G1
                clear hx1 hx2 hat hp2
                go_wp2_with fail
                refine G1.out.mono ?_
                rintro e w3 ⟨rfl, t3⟩
                have BL := (Below.refl w3.heap.size w3).alloc (Nat.le_refl _) (.cells #[.int .i64 0, .int .u64 0] 29)
                have B3 := hide (below_on (below_on HB.out t3) BL)
                have H3 := hide ((HH.out.below t3).below BL)
                have hQ3 := (HQ.out.below t3 HQ.out.lt).below BL (HQ.out.below t3 HQ.out.lt).lt
                have d1 : (w3.alloc (.cells #[.int .i64 0, .int .u64 0] 29)).cell? ⟨q, 1, none⟩ = some (.int .i64 s) := hQ3.cell 1
                have d2 : (w3.alloc (.cells #[.int .i64 0, .int .u64 0] 29)).cell? ⟨q, 2, none⟩ = some (.int .u64 g) := hQ3.cell 2
                have Y3 := hide (Has.new w3 29 #[.int .i64 0, .int .u64 0])
                clear t3 BL c1 c2 hQ3
                go_wp2_with fail
                refine (HEA.out _ H3.out.2).mono ?_
                rintro e w4 ⟨rfl, t4⟩
                have B4 := hide (below_on B3.out t4)
                have H4 := hide (H3.out.below t4)
                have Y4 := hide (Y3.out.below t4 Y3.out.lt)
                obtain ⟨Ax, cx, hx4, hrow4⟩ := H4.out.2.form
                have x4 : w4.cell? ⟨x, 0, none⟩ = some (.slice Ax hs5.length cx) := hx4.cell 0
                have HX := hide hx4
                have HROW := hide hrow4
                clear t4 d1 d2 hx4 hrow4
                go_wp2_with fail
                refine wp_region_fixed [134, 135, 136, 137, 138, 139, 140, 141, 142, 143, 144, 145, 146, 147, 148, 149, 150, 151, 152, 153, 154, 155, 156, 157, 158, 159]
                  [.bool false, .bool false, .bool false, .bool false, .bool false, .bool false, undef, undef, undef, undef, undef, undef, undef, undef, undef, undef, .bool false, .bool false, .bool false, .bool false, .bool true, .bool true, .agg #[.int .i64 0, .int .u64 0], .agg #[.int .i64 0, .int .u64 0], .bool false, .bool false] (by kernel_rfl) (by simp) rfl (by kernel_rfl) (by kernel_rfl) (by kernel_rfl) (by simp) (by decide) ?_ ?_
                · refine ⟨?_, ?_, ?_, ?_, ?_, ?_, ?_, ?_, ?_, ?_, ?_, ?_, ?_, ?_, ?_, ?_, ?_, ?_, ?_, ?_, ?_, ?_, ?_, ?_, ?_, ?_, trivial⟩
                  · exact .inl ⟨.inl rfl, fun a' W hB hold he K hK => fx_move (.tmp 12) _ (.inl rfl) (hold 12 (by decide)) (hK _ (Below.refl _ _))⟩
                  · exact .inl ⟨.inl rfl, fun a' W hB hold he K hK => fx_move (.tmp 14) _ (.inl rfl) (hold 14 (by decide)) (hK _ (Below.refl _ _))⟩
                  · exact .inl ⟨.inl rfl, fun a' W hB hold he K hK => fx_bin .neq 4 4 (.tmp 134) (.tmp 135) _ _ _ rfl (he ⟨0, .data⟩ (by simp) rfl) (he ⟨1, .data⟩ (by simp) rfl) (by kernel_rfl) (by kernel_rfl) (hK _ (Below.refl _ _))⟩
                  · exact .inl ⟨.inl rfl, fun a' W hB hold he K hK => fx_move (.tmp 136) _ (.inl rfl) (he ⟨2, .data⟩ (by simp) rfl) (hK _ (Below.refl _ _))⟩
                  · exact .inl ⟨.inr ⟨3, false, _, rfl, ⟨⟨3, .guard⟩, by simp, rfl, rfl⟩, rfl, rfl, by decide, rfl⟩, fun a' W hB hold he K hK => fx_move (.tmp 12) _ (.inl rfl) (hold 12 (by decide)) (hK _ (Below.refl _ _))⟩
                  · exact .inl ⟨.inr ⟨3, false, _, rfl, ⟨⟨3, .guard⟩, by simp, rfl, rfl⟩, rfl, rfl, by decide, rfl⟩, fun a' W hB hold he K hK => fx_move (.tmp 138) _ (.inl rfl) (he ⟨4, .data⟩ (by simp) rfl) (hK _ (Below.refl _ _))⟩
                  · exact .inr ⟨rfl, rfl, 5, true, _, rfl, ⟨⟨5, .guard⟩, by simp, rfl, rfl⟩, rfl, rfl, by decide, by intro h; cases h⟩
                  · exact .inr ⟨rfl, rfl, 5, true, _, rfl, ⟨⟨5, .guard⟩, by simp, rfl, rfl⟩, rfl, rfl, by decide, by intro h; cases h⟩
                  · exact .inr ⟨rfl, rfl, 5, true, _, rfl, ⟨⟨5, .guard⟩, by simp, rfl, rfl⟩, rfl, rfl, by decide, by intro h; cases h⟩
                  · exact .inr ⟨rfl, rfl, 5, true, _, rfl, ⟨⟨5, .guard⟩, by simp, rfl, rfl⟩, rfl, rfl, by decide, by intro h; cases h⟩
                  · exact .inr ⟨rfl, rfl, 5, true, _, rfl, ⟨⟨5, .guard⟩, by simp, rfl, rfl⟩, rfl, rfl, by decide, by intro h; cases h⟩
                  · exact .inr ⟨rfl, rfl, 5, true, _, rfl, ⟨⟨5, .guard⟩, by simp, rfl, rfl⟩, rfl, rfl, by decide, by intro h; cases h⟩
                  · exact .inr ⟨rfl, rfl, 5, true, _, rfl, ⟨⟨5, .guard⟩, by simp, rfl, rfl⟩, rfl, rfl, by decide, by intro h; cases h⟩
                  · exact .inr ⟨rfl, rfl, 5, true, _, rfl, ⟨⟨5, .guard⟩, by simp, rfl, rfl⟩, rfl, rfl, by decide, by intro h; cases h⟩
                  · exact .inr ⟨rfl, rfl, 5, true, _, rfl, ⟨⟨5, .guard⟩, by simp, rfl, rfl⟩, rfl, rfl, by decide, by intro h; cases h⟩
                  · exact .inr ⟨rfl, rfl, 5, true, _, rfl, ⟨⟨5, .guard⟩, by simp, rfl, rfl⟩, rfl, rfl, by decide, by intro h; cases h⟩
                  · exact .inl ⟨.inr ⟨3, false, _, rfl, ⟨⟨3, .guard⟩, by simp, rfl, rfl⟩, rfl, rfl, by decide, rfl⟩, fun a' W hB hold he K hK => fx_pick (.tmp 139) (.tmp 149) (.const (.bool false)) false _ rfl (he ⟨5, .data⟩ (by simp) rfl) rfl (hK _ (Below.refl _ _))⟩
                  · exact .inl ⟨.inl rfl, fun a' W hB hold he K hK => fx_pick (.tmp 137) (.const (.bool true)) (.tmp 150) false _ rfl (he ⟨3, .data⟩ (by simp) rfl) (he ⟨16, .data⟩ (by simp) rfl) (hK _ (Below.refl _ _))⟩
                  · exact .inl ⟨.inl rfl, fun a' W hB hold he K hK => fx_move (.tmp 151) _ (.inl rfl) (he ⟨17, .data⟩ (by simp) rfl) (hK _ (Below.refl _ _))⟩
                  · exact .inl ⟨.inr ⟨18, false, _, rfl, ⟨⟨18, .guard⟩, by simp, rfl, rfl⟩, rfl, rfl, by decide, rfl⟩, fun a' W hB hold he K hK => fx_move (.tmp 12) _ (.inl rfl) (hold 12 (by decide)) (hK _ (Below.refl _ _))⟩
                  · exact .inl ⟨.inr ⟨18, false, _, rfl, ⟨⟨18, .guard⟩, by simp, rfl, rfl⟩, rfl, rfl, by decide, rfl⟩, fun a' W hB hold he K hK => fx_not 4 (.tmp 153) _ rfl (he ⟨19, .data⟩ (by simp) rfl) (hK _ (Below.refl _ _))⟩
                  · exact .inl ⟨.inr ⟨18, false, _, rfl, ⟨⟨18, .guard⟩, by simp, rfl, rfl⟩, rfl, rfl, by decide, rfl⟩, fun a' W hB hold he K hK => fx_move (.tmp 154) _ (.inl rfl) (he ⟨20, .data⟩ (by simp) rfl) (hK _ (Below.refl _ _))⟩
                  · exact .inl ⟨.inr ⟨21, true, _, rfl, ⟨⟨21, .guard⟩, by simp, rfl, rfl⟩, rfl, rfl, by decide, rfl⟩, fun a' W hB hold he K hK => wp_step_load 29 (.tmp 11) _ rfl _ (hold 11 (by decide)) (load_h W _ _ _ (Y4.out.below hB Y4.out.lt)) (hK _ (Below.refl _ _))⟩
                  · exact .inl ⟨.inr ⟨21, true, _, rfl, ⟨⟨21, .guard⟩, by simp, rfl, rfl⟩, rfl, rfl, by decide, rfl⟩, fun a' W hB hold he K hK => wp_step_run (.agg #[.int .i64 0, .int .u64 0]) (by kernel_rfl) (hK _ (Below.refl _ _))⟩
                  · exact .inl ⟨.inr ⟨21, true, _, rfl, ⟨⟨21, .guard⟩, by simp, rfl, rfl⟩, rfl, rfl, by decide, rfl⟩, fun a' W hB hold he K hK => fx_bin .neq 29 29 (.tmp 156) (.tmp 157) _ _ _ rfl (he ⟨22, .data⟩ (by simp) rfl) (he ⟨23, .data⟩ (by simp) rfl) (by kernel_rfl) (by kernel_rfl) (hK _ (Below.refl _ _))⟩
                  · exact .inl ⟨.inr ⟨18, false, _, rfl, ⟨⟨18, .guard⟩, by simp, rfl, rfl⟩, rfl, rfl, by decide, rfl⟩, fun a' W hB hold he K hK => fx_pick (.tmp 155) (.tmp 158) (.const (.bool false)) true _ rfl (he ⟨21, .data⟩ (by simp) rfl) (he ⟨24, .data⟩ (by simp) rfl) (hK _ (Below.refl _ _))⟩
                intro W6 hb6
                have H6 := hide (H4.out.below hb6)
                have B6 := hide (below_on B4.out hb6)
                clear hb6
                simp only [putAll, List.length_cons, List.length_nil, Nat.reduceAdd, List.drop_succ_cons, List.drop_zero]
                go_wp2_with fail
                go_roundw
                case rel => exact ⟨k + 1, hs5, by omega, rfl, HL5.out, H6.out, B6.out⟩
                case measure => simp [intOf]; omega
              | some p2 =>
                have hlt2 := (List.getElem?_eq_some_iff.1 hp2).1
                have hi1 : decide (((i + 1 : Nat) : Int) < ((hs5.length : Nat) : Int)) = true := decide_eq_true (by omega)
                have hi1a : decide ((i : Int) + 1 < ((hs5.length : Nat) : Int)) = true := decide_eq_true (by omega)
                have hi1b : decide (i + 1 < hs5.length) = true := decide_eq_true (by omega)
                obtain ⟨s2, g2⟩ := p2
                rw [hp2] at G1
                simp only [Option.getD, Option.isSome, hv] at G1
                have G1 := hide G1
                have HP2 := hide hp2
                clear hx1 hx2 hat hp2
                go_wp2_with fail
                refine G1.out.mono ?_
                rintro e w3 ⟨rfl, t3⟩
                have BL := (Below.refl w3.heap.size w3).alloc (Nat.le_refl _) (.cells #[.int .i64 s2, .int .u64 g2] 29)
                have B3 := hide (below_on (below_on HB.out t3) BL)
                have H3 := hide ((HH.out.below t3).below BL)
                have hQ3 := (HQ.out.below t3 HQ.out.lt).below BL (HQ.out.below t3 HQ.out.lt).lt
                have d1 : (w3.alloc (.cells #[.int .i64 s2, .int .u64 g2] 29)).cell? ⟨q, 1, none⟩ = some (.int .i64 s) := hQ3.cell 1
                have d2 : (w3.alloc (.cells #[.int .i64 s2, .int .u64 g2] 29)).cell? ⟨q, 2, none⟩ = some (.int .u64 g) := hQ3.cell 2
                have Y3 := hide (Has.new w3 29 #[.int .i64 s2, .int .u64 g2])
                clear t3 BL c1 c2 hQ3
                go_wp2_with fail
                refine (HEA.out _ H3.out.2).mono ?_
                rintro e w4 ⟨rfl, t4⟩
                have B4 := hide (below_on B3.out t4)
                have H4 := hide (H3.out.below t4)
                have Y4 := hide (Y3.out.below t4 Y3.out.lt)
                obtain ⟨Ax, cx, hx4, hrow4⟩ := H4.out.2.form
                have x4 : w4.cell? ⟨x, 0, none⟩ = some (.slice Ax hs5.length cx) := hx4.cell 0
                have HX := hide hx4
                have HROW := hide hrow4
                clear t4 d1 d2 hx4 hrow4
                go_wp2_with fail
                obtain ⟨g0, cap, hv0, _, _⟩ := row_at HROW.out HP2.out
                injection hv0 with hz1 hz2 hz3
                subst hz1
                have hadd : ∀ W : World, (binOp .add 3 (.int .i64 (i : Int)) (.int .i64 1)).run Try.prog W = .ok (.int .i64 ((i + 1 : Nat) : Int)) W := fun W => add_one W i (by omega)
                have hEi : ((i + 1 : Nat) : Int) < ((hs5.length : Nat) : Int) := by omega
                have hEi2 : ((i : Int) + 1) < ((hs5.length : Nat) : Int) := by omega
                have hnn : ¬ ((i : Int) + 1 < 0) := by omega
                clear hz2 hz3
                refine wp_region_fixed [134, 135, 136, 137, 138, 139, 140, 141, 142, 143, 144, 145, 146, 147, 148, 149, 150, 151, 152, 153, 154, 155, 156, 157, 158, 159]
                  [.bool true, .bool true, .bool false, .bool false, .bool true, .bool true, .agg #[.int .i64 s2, .int .u64 g2], .pointer (some ⟨x, 0, none⟩), .pointer (some ⟨x, 0, none⟩), .pointer (some ⟨x, 0, none⟩), .slice (some ⟨g0, 0, none⟩) hs5.length cx, .int .i64 (i : Int), .int .i64 ((i + 1 : Nat) : Int), .pointer (some ⟨g0, (i + 1) * 2, none⟩), .agg #[.int .i64 s2, .int .u64 g2], .bool false, .bool false, .bool false, .bool false, .bool true, .bool false, .bool false, undef, undef, undef, .bool false] (by kernel_rfl) (by simp) rfl (by kernel_rfl) (by kernel_rfl) (by kernel_rfl) (by simp) (by decide) ?_ ?_
                · refine ⟨?_, ?_, ?_, ?_, ?_, ?_, ?_, ?_, ?_, ?_, ?_, ?_, ?_, ?_, ?_, ?_, ?_, ?_, ?_, ?_, ?_, ?_, ?_, ?_, ?_, ?_, trivial⟩
                  · exact .inl ⟨.inl rfl, fun a' W hB hold he K hK => fx_move (.tmp 12) _ (.inl rfl) (hold 12 (by decide)) (hK _ (Below.refl _ _))⟩
                  · exact .inl ⟨.inl rfl, fun a' W hB hold he K hK => fx_move (.tmp 14) _ (.inl rfl) (hold 14 (by decide)) (hK _ (Below.refl _ _))⟩
                  · exact .inl ⟨.inl rfl, fun a' W hB hold he K hK => fx_bin .neq 4 4 (.tmp 134) (.tmp 135) _ _ _ rfl (he ⟨0, .data⟩ (by simp) rfl) (he ⟨1, .data⟩ (by simp) rfl) (by kernel_rfl) (by kernel_rfl) (hK _ (Below.refl _ _))⟩
                  · exact .inl ⟨.inl rfl, fun a' W hB hold he K hK => fx_move (.tmp 136) _ (.inl rfl) (he ⟨2, .data⟩ (by simp) rfl) (hK _ (Below.refl _ _))⟩
                  · exact .inl ⟨.inr ⟨3, false, _, rfl, ⟨⟨3, .guard⟩, by simp, rfl, rfl⟩, rfl, rfl, by decide, rfl⟩, fun a' W hB hold he K hK => fx_move (.tmp 12) _ (.inl rfl) (hold 12 (by decide)) (hK _ (Below.refl _ _))⟩
                  · exact .inl ⟨.inr ⟨3, false, _, rfl, ⟨⟨3, .guard⟩, by simp, rfl, rfl⟩, rfl, rfl, by decide, rfl⟩, fun a' W hB hold he K hK => fx_move (.tmp 138) _ (.inl rfl) (he ⟨4, .data⟩ (by simp) rfl) (hK _ (Below.refl _ _))⟩
                  · exact .inl ⟨.inr ⟨5, true, _, rfl, ⟨⟨5, .guard⟩, by simp, rfl, rfl⟩, rfl, rfl, by decide, rfl⟩, fun a' W hB hold he K hK => wp_step_load 29 (.tmp 11) _ rfl _ (hold 11 (by decide)) (load_h W _ _ _ (Y4.out.below hB Y4.out.lt)) (hK _ (Below.refl _ _))⟩
                  · exact .inl ⟨.inr ⟨5, true, _, rfl, ⟨⟨5, .guard⟩, by simp, rfl, rfl⟩, rfl, rfl, by decide, rfl⟩, fun a' W hB hold he K hK => fx_move (.tmp 4) _ (.inl rfl) (hold 4 (by decide)) (hK _ (Below.refl _ _))⟩
                  · exact .inl ⟨.inr ⟨5, true, _, rfl, ⟨⟨5, .guard⟩, by simp, rfl, rfl⟩, rfl, rfl, by decide, rfl⟩, fun a' W hB hold he K hK => fx_nil (.tmp 141) _ rfl (he ⟨7, .data⟩ (by simp) rfl) (hK _ (Below.refl _ _))⟩
                  · exact .inl ⟨.inr ⟨5, true, _, rfl, ⟨⟨5, .guard⟩, by simp, rfl, rfl⟩, rfl, rfl, by decide, rfl⟩, fun a' W hB hold he K hK => fx_field 40 (.tmp 142) 0 _ _ rfl (he ⟨8, .data⟩ (by simp) rfl) (by kernel_rfl) (hK _ (Below.refl _ _))⟩
                  · exact .inl ⟨.inr ⟨5, true, _, rfl, ⟨⟨5, .guard⟩, by simp, rfl, rfl⟩, rfl, rfl, by decide, rfl⟩, fun a' W hB hold he K hK => wp_step_load 22 (.tmp 143) _ rfl _ (he ⟨9, .data⟩ (by simp) rfl) (load_row W x _ ((HX.out.below hB HX.out.lt).cell 0)) (hK _ (Below.refl _ _))⟩
                  · exact .inl ⟨.inr ⟨5, true, _, rfl, ⟨⟨5, .guard⟩, by simp, rfl, rfl⟩, rfl, rfl, by decide, rfl⟩, fun a' W hB hold he K hK => fx_move (.tmp 13) _ (.inl rfl) (hold 13 (by decide)) (hK _ (Below.refl _ _))⟩
                  · exact .inl ⟨.inr ⟨5, true, _, rfl, ⟨⟨5, .guard⟩, by simp, rfl, rfl⟩, rfl, rfl, by decide, rfl⟩, fun a' W hB hold he K hK => fx_bin .add 3 3 (.tmp 145) (.const (.int .i64 1)) _ _ _ rfl (he ⟨11, .data⟩ (by simp) rfl) rfl rfl (hadd _) (hK _ (Below.refl _ _))⟩
                  · exact .inl ⟨.inr ⟨5, true, _, rfl, ⟨⟨5, .guard⟩, by simp, rfl, rfl⟩, rfl, rfl, by decide, rfl⟩, fun a' W hB hold he K hK => (by have h0 : a'.eval (.tmp 144) = _ := (he ⟨10, .data⟩ (by simp) rfl); have h1 : a'.eval (.tmp 146) = _ := (he ⟨12, .data⟩ (by simp) rfl); exact wp_step_run (.pointer (some ⟨g0, (i + 1) * 2, none⟩)) (by simp only [execOp, h0, h1]; go_simp) (hK _ (Below.refl _ _)))⟩
                  · exact .inl ⟨.inr ⟨5, true, _, rfl, ⟨⟨5, .guard⟩, by simp, rfl, rfl⟩, rfl, rfl, by decide, rfl⟩, fun a' W hB hold he K hK => wp_step_load 29 (.tmp 147) _ rfl _ (he ⟨13, .data⟩ (by simp) rfl) (load_hcell W _ _ _ _ (row_cell (row_below HROW.out hB) HP2.out).1 (row_cell (row_below HROW.out hB) HP2.out).2) (hK _ (Below.refl _ _))⟩
                  · exact .inl ⟨.inr ⟨5, true, _, rfl, ⟨⟨5, .guard⟩, by simp, rfl, rfl⟩, rfl, rfl, by decide, rfl⟩, fun a' W hB hold he K hK => fx_bin .neq 29 29 (.tmp 140) (.tmp 148) _ _ _ rfl (he ⟨6, .data⟩ (by simp) rfl) (he ⟨14, .data⟩ (by simp) rfl) (neq_hg _ _ _ _ _) (neq_h _ _ _) (hK _ (Below.refl _ _))⟩
                  · exact .inl ⟨.inr ⟨3, false, _, rfl, ⟨⟨3, .guard⟩, by simp, rfl, rfl⟩, rfl, rfl, by decide, rfl⟩, fun a' W hB hold he K hK => fx_pick (.tmp 139) (.tmp 149) (.const (.bool false)) true _ rfl (he ⟨5, .data⟩ (by simp) rfl) (he ⟨15, .data⟩ (by simp) rfl) (hK _ (Below.refl _ _))⟩
                  · exact .inl ⟨.inl rfl, fun a' W hB hold he K hK => fx_pick (.tmp 137) (.const (.bool true)) (.tmp 150) false _ rfl (he ⟨3, .data⟩ (by simp) rfl) (he ⟨16, .data⟩ (by simp) rfl) (hK _ (Below.refl _ _))⟩
                  · exact .inl ⟨.inl rfl, fun a' W hB hold he K hK => fx_move (.tmp 151) _ (.inl rfl) (he ⟨17, .data⟩ (by simp) rfl) (hK _ (Below.refl _ _))⟩
                  · exact .inl ⟨.inr ⟨18, false, _, rfl, ⟨⟨18, .guard⟩, by simp, rfl, rfl⟩, rfl, rfl, by decide, rfl⟩, fun a' W hB hold he K hK => fx_move (.tmp 12) _ (.inl rfl) (hold 12 (by decide)) (hK _ (Below.refl _ _))⟩
                  · exact .inl ⟨.inr ⟨18, false, _, rfl, ⟨⟨18, .guard⟩, by simp, rfl, rfl⟩, rfl, rfl, by decide, rfl⟩, fun a' W hB hold he K hK => fx_not 4 (.tmp 153) _ rfl (he ⟨19, .data⟩ (by simp) rfl) (hK _ (Below.refl _ _))⟩
                  · exact .inl ⟨.inr ⟨18, false, _, rfl, ⟨⟨18, .guard⟩, by simp, rfl, rfl⟩, rfl, rfl, by decide, rfl⟩, fun a' W hB hold he K hK => fx_move (.tmp 154) _ (.inl rfl) (he ⟨20, .data⟩ (by simp) rfl) (hK _ (Below.refl _ _))⟩
                  · exact .inr ⟨rfl, rfl, 21, true, _, rfl, ⟨⟨21, .guard⟩, by simp, rfl, rfl⟩, rfl, rfl, by decide, by intro h; cases h⟩
                  · exact .inr ⟨rfl, rfl, 21, true, _, rfl, ⟨⟨21, .guard⟩, by simp, rfl, rfl⟩, rfl, rfl, by decide, by intro h; cases h⟩
                  · exact .inr ⟨rfl, rfl, 21, true, _, rfl, ⟨⟨21, .guard⟩, by simp, rfl, rfl⟩, rfl, rfl, by decide, by intro h; cases h⟩
                  · exact .inl ⟨.inr ⟨18, false, _, rfl, ⟨⟨18, .guard⟩, by simp, rfl, rfl⟩, rfl, rfl, by decide, rfl⟩, fun a' W hB hold he K hK => fx_pick (.tmp 155) (.tmp 158) (.const (.bool false)) false _ rfl (he ⟨21, .data⟩ (by simp) rfl) rfl (hK _ (Below.refl _ _))⟩
                intro W6 hb6
                have H6 := hide (H4.out.below hb6)
                have B6 := hide (below_on B4.out hb6)
                clear hb6
                simp only [putAll, List.length_cons, List.length_nil, Nat.reduceAdd, List.drop_succ_cons, List.drop_zero]
                go_wp2_with fail
                go_roundw
                case rel => exact ⟨k + 1, hs5, by omega, rfl, HL5.out, H6.out, B6.out⟩
                case measure => simp [intOf]; omega
    · have hdl : decide ((k : Int) < (N : Int)) = false := decide_eq_false (by omega)
      have HB := hide hB
      clear hH hB hlen
      go_wp2_with fail
      refine (list_works _).mono ?_
      rintro e w5 ⟨rfl, t5⟩
      have B5 := hide (below_on HB.out t5)
      clear t5
      go_wp2_with fail
      go_returns
      exact ⟨rfl, B5.out⟩

end Go.Proofs.Ytagminbfboncoaa
