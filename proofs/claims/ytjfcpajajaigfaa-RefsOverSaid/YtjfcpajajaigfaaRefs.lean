import Derived.Test.YtjfcpajajaigfaaProg
import Derived.Test.YtjfcpajajaigfaaRowC
import Derived.Test.YtjfcpajajaigfaaMaps
import Derived.Deep.AppendLies
import Derived.Deep.RegionLaw
import Derived.StillTailTactics
import Derived.Handy
/-! Package refs: what a run's references hold; the calls without an iterator. -/
namespace Go.Proofs.Ytjfcpajajaigfaa
open Go.RowKit Go.Maps
set_option maxHeartbeats 2000000
set_option maxRecDepth 100000
set_option linter.unusedSimpArgs false
set_option linter.unusedVariables false

theorem wrap_i64 {x : Int} (h0 : -9223372036854775808 ≤ x) (h1 : x < 9223372036854775808) : IntKind.i64.wrap x = x := by
  rw [IntKind.wrap_i64]
  omega

/-- A reference: of an object (its slot, its generation); what it is. -/
structure Rf where
  s : Int
  g : Int
  k : Int
def Rf.enc (x : Rf) : List Value := [.int .i64 x.s, .int .u64 x.g, .int .u8 x.k]
theorem Rf.enc_length (x : Rf) : x.enc.length = 3 := rfl
theorem Rf.enc_one (x : Rf) : ∀ u ∈ x.enc, u.oneCell' = true := by simp [Rf.enc, Value.oneCell']

/-- The references L at block b; their row, and b, at N or behind. -/
def RefsIs (N : Nat) (w : World) (b : Nat) (L : List Rf) : Prop := N ≤ b ∧ ∃ v, Has w b 82 #[.bool true, v] ∧ w.ownsRow N 91 3 v L.length (rowC Rf.enc L)

/-- The blocks that calls may turn. -/
def RefsMay (N b : Nat) (w : World) (k : Nat) : Prop := N ≤ k ∧ (k = b ∨ ∃ c, Has w k 91 c)

section
variable {N b : Nat} {w w' : World} {L : List Rf}
theorem RefsIs.lt (h : RefsIs N w b L) : b < w.heap.size := by obtain ⟨_, v, h, _⟩ := h; exact h.lt
theorem RefsIs.below (h : RefsIs N w b L) (hb : Below w.heap.size w w') : RefsIs N w' b L := by
  obtain ⟨h0, v, h1, h2⟩ := h
  exact ⟨h0, v, h1.below hb h1.lt, owns_below h2 hb⟩
theorem RefsIs.form (h : RefsIs N w b L) : ∃ A c, Has w b 82 #[.bool true, .slice A L.length c] ∧ w.ownsRow N 91 3 (.slice A L.length c) L.length (rowC Rf.enc L) := by
  obtain ⟨h0, v, h1, h2⟩ := h
  obtain ⟨A, c, rfl⟩ := row_form h2
  exact ⟨A, c, h1, h2⟩
theorem RefsMay.of {k : Nat} {t : TypeId} {c : Array Value} (h : Has w k t c) (ht : t ≠ 91) (hk : k ≠ b) : ¬ RefsMay N b w k := by
  rintro ⟨_, h1 | ⟨c2, h2⟩⟩
  · exact hk h1
  · exact ht (h.eq h2).1
theorem RefsMay.mapOf {k : Nat} {α : Type} {enc : α → Value} {ok : α → Prop} {l : List (α × Value)} (h : MapIs w k enc ok l) (hk : k ≠ b) : ¬ RefsMay N b w k := by
  rintro ⟨_, h1 | ⟨c2, h2⟩⟩
  · exact hk h1
  · obtain ⟨es, clock, h3, _⟩ := h
    unfold Has at h2
    rw [h2] at h3
    cases h3
/-- A row of references ends where Refs's own block is another's. -/
theorem own_may {v : Value} {n : Nat} {xs : List Value} (h : w.ownsRow N 91 3 v n xs) {k : Nat} (hk : v.ownBlock = some k) : RefsMay N b w k := ⟨owns_base h hk, .inr (owns_block h hk)⟩
end

theorem refs_new (N : Nat) (w : World) (hN : N ≤ w.heap.size) : Calls Try.prog 20 #[] w fun e w' => ∃ b, e = .returned (.pointer (some ⟨b, 0, none⟩)) ∧ RefsIs N w' b [] ∧ w.heap.size ≤ b ∧ Below w.heap.size w w' := by
  go_enter Try.func20, Try.ntmps20
  go_wp2_with fail
  go_ret
  exact ⟨_, rfl, ⟨hN, _, Has.new _ _ _, World.ownsRow_nil _ _ _ _⟩, Nat.le_refl _, by go_grown⟩

theorem info_rf : (Try.prog.info? 91).map (fun i => (i.zero, i.size, i.bytes)) = some (some (.agg #[.int .i64 0, .int .u64 0, .int .u8 0]), 3, 24) := by kernel_rfl

/-- Another block than the row, behind an append. -/
theorem grown_has2 {N x n : Nat} {W w3 : World} {t : TypeId} {cs : Array Value} {v : Value} {xs : List Value} (h : Has W x t cs) (ho : W.ownsRow N 91 3 v n xs) (hg : W.grownBy w3 v.ownBlock) (ht : t ≠ 91) : Has w3 x t cs :=
  (hg.block x h.lt (fun e => by obtain ⟨c, hc⟩ := owns_block ho e.symm; exact ht (h.eq hc).1)).trans h

theorem refs_comes (N : Nat) (w : World) (b : Nat) (L : List Rf) (h : RefsIs N w b L) (hL : L.length ≤ 100000) (s g k : Int) :
    Calls Try.prog 36 #[.pointer (some ⟨b, 0, none⟩), .agg #[.int .i64 s, .int .u64 g], .int .u8 k] w fun e w' =>
      e = .returned (.tuple #[.int .u64 (L.length + 1 : Nat), .int .i64 0]) ∧ RefsIs N w' b (L ++ [⟨s, g, k⟩]) ∧ Turned (RefsMay N b w) w w' := by
  obtain ⟨i0, hi, hz0, hz1, hz2⟩ := info_parts info_rf
  obtain ⟨A, c, hb, hown⟩ := h.form
  have hNb := h.1
  have hNw : N ≤ w.heap.size := by have := h.lt; omega
  obtain ⟨n, hn⟩ : ∃ n, n = L.length := ⟨_, rfl⟩
  rw [← hn] at hb hown ⊢
  have hn2 : n ≤ 100000 := by omega
  have hd : decide ((131072 : Int) ≤ (n : Int)) = false := decide_eq_false (by omega)
  obtain ⟨w0, hw0⟩ : ∃ w0, w0 = w.alloc (.cells #[.int .i64 s, .int .u64 g] 58) := ⟨_, rfl⟩
  have B0 := hide (show Below w.heap.size w w0 by rw [hw0]; exact (Below.refl _ w).alloc (Nat.le_refl _) _)
  have hsz0 : w0.heap.size = w.heap.size + 1 := by rw [hw0]; simp
  have HS0 := hide hsz0
  have hN0 : N ≤ w0.heap.size := by omega
  have hlw : w.heap.size < w0.heap.size := by omega
  have hbl0 : b < w0.heap.size := by have := hb.lt; omega
  clear hsz0
  have HH := hide (show Has w0 w.heap.size 58 #[.int .i64 s, .int .u64 g] by rw [hw0]; exact Has.new _ _ _)
  have HB := hide (hb.below B0.out hb.lt)
  have HO := hide (owns_below hown B0.out)
  have HMAY := hide (fun q (hq : (Value.slice A n c).ownBlock = some q) => own_may (b := b) hown hq)
  have hbl := hb.lt
  have HN := hide hn
  have HW0 := hide hw0
  have cb0 : w.cell? ⟨b, 0, none⟩ = some (.bool true) := hb.cell 0
  have cb1 : w.cell? ⟨b, 1, none⟩ = some (.slice A n c) := hb.cell 1
  clear h hb hown hw0 hn hL
  have c0 : w0.cell? ⟨b, 0, none⟩ = some (.bool true) := HB.out.cell 0
  have c1 : w0.cell? ⟨b, 1, none⟩ = some (.slice A n c) := HB.out.cell 1
  have h0 : w0.cell? ⟨w.heap.size, 0, none⟩ = some (.int .i64 s) := HH.out.cell 0
  have h1 : w0.cell? ⟨w.heap.size, 1, none⟩ = some (.int .u64 g) := HH.out.cell 1
  go_enter Try.func36, Try.ntmps36
  go_wp2_with fail
  rw [← HW0.out]
  have hown2 : ((w0.alloc (.cells #[.int .i64 s, .int .u64 g, .int .u8 k] 91)).drew).ownsRow N 91 3 (.slice A n c) n (rowC Rf.enc L) := owns_below HO.out (((Below.refl _ w0).alloc (Nat.le_refl _) _).drew)
  have hnews : ∀ j u, [Value.int .i64 s, .int .u64 g, .int .u8 k][j]? = some u → ((w0.alloc (.cells #[.int .i64 s, .int .u64 g, .int .u8 k] 91)).drew).cell? ((⟨w0.heap.size, 0, none⟩ : Addr).add j) = some u :=
    World.news_of_block (cs := #[.int .i64 s, .int .u64 g, .int .u8 k]) (t := 91) (fr := (0, 0)) (Has.new w0 _ _)
  have hB2 : Below w.heap.size w (w0.alloc (.cells #[.int .i64 s, .int .u64 g, .int .u8 k] 91)).drew := (B0.out.alloc B0.out.size _).drew
  have HBx := hide (show Has (w0.alloc (.cells #[.int .i64 s, .int .u64 g, .int .u8 k] 91)).drew b 82 #[.bool true, .slice A n c] from HB.out.alloc _)
  have HB2 := hide hB2
  clear hB2 cb0 cb1
  go_region_law (refine step_append_lies _ rfl (.tmp 29) (.tmp 33) 80 rfl N 91 i0 (.agg #[.int .i64 0, .int .u64 0, .int .u8 0]) 3 24 Try.underlying80 hi hz0 hz1 hz2 rfl (by decide) (.slice A n c) n (rowC Rf.enc L) (by simp [Act.eval]) hown2 ⟨w0.heap.size, 0, none⟩ 1 1 [.int .i64 s, .int .u64 g, .int .u8 k] (by simp [Act.eval]) rfl hnews (by simp [Value.oneCell']) (by decide) (by unfold maxLen; omega) (by omega) (by simp; omega) _ rfl ?_; intro g' cap w3 hown' hgrow3 hat3 hlt3; have HB3 := grown_has2 HBx.out hown2 hgrow3 (by decide); have c3 := HB3.cell 1; have f3 := HB3.free 1; have HB3 := hide HB3; have HG3 := hide hgrow3; have HO3 := hide hown')
  all_goals
    have HX := HB3.out.set 1 (.slice (some ⟨g', 0, none⟩) (n + 1) cap)
    have hne : ∀ q, (Value.slice (some ⟨g', 0, none⟩) (n + 1) cap).ownBlock = some q → q ≠ b := fun q hq e => by
      obtain ⟨cc, hcc⟩ := owns_block HO3.out hq
      rw [e] at hcc
      exact absurd (hcc.eq HB3.out).1 (by decide)
    have HO4 := hide (owns_kept (w' := w3.setCell ⟨b, 1, none⟩ (.slice (some ⟨g', 0, none⟩) (n + 1) cap)) HO3.out (fun q hq => Below.heap_setCell w3 ⟨b, 1, none⟩ _ q (hne q hq)))
    have HT4 := hide ((((Turned.of_below (S := RefsMay N b w) HB2.out).trans (Turned.grown HG3.out (fun q hq => HMAY.out q hq))).set (p := ⟨b, 1, none⟩) (fun _ => ⟨hNb, .inl rfl⟩) (.slice (some ⟨g', 0, none⟩) (n + 1) cap)))
    have HX2 := hide HX
    have d1 : (w3.setCell ⟨b, 1, none⟩ (.slice (some ⟨g', 0, none⟩) (n + 1) cap)).cell? ⟨b, 1, none⟩ = some (.slice (some ⟨g', 0, none⟩) (n + 1) cap) := HX.cell 1
    obtain ⟨w4, hw4⟩ : ∃ w4, w4 = w3.setCell ⟨b, 1, none⟩ (.slice (some ⟨g', 0, none⟩) (n + 1) cap) := ⟨_, rfl⟩
    rw [← hw4] at d1 HO4 HT4 HX2 ⊢
    have hwr : IntKind.u64.wrap ((n : Int) + 1) = (n : Int) + 1 := wrap_u64 (by omega) (by omega)
    clear hw4 HX hne hown' hgrow3 hat3 hlt3 c3 f3
    go_wp2_with fail
    go_returns
    refine ⟨by simp <;> rfl, ⟨hNb, _, HX2.out, ?_⟩, HT4.out⟩
    rw [List.length_append, List.length_singleton, ← HN.out, rowC_append]
    exact HO4.out

end Go.Proofs.Ytjfcpajajaigfaa
