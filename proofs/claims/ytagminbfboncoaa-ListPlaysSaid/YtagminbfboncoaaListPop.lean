import Derived.Test.YtagminbfboncoaaListRemove
/-! Package list: Pop. -/
namespace Go.Proofs.Ytagminbfboncoaa
open Go.RowKit Go.Maps
set_option maxHeartbeats 2000000
set_option maxRecDepth 100000
set_option linter.unusedSimpArgs false
set_option linter.unusedVariables false

/-- What becomes of the row where one is popped. -/
def popped (hs : List (Int × Int)) (front : Bool) : List (Int × Int) := match endOf hs front with | some q => removed hs q | none => hs

theorem endOf_ok {N : Nat} {w : World} {b mb : Nat} {hs : List (Int × Int)} (h : ListIs N w b mb hs) {front : Bool} {q : Int × Int} (e : endOf hs front = some q) : hOk q := by
  obtain ⟨ks, m, _, _, _, _, _, hoks, _⟩ := h
  exact hoks q (List.mem_of_getElem? e)

theorem ListIs.kept {N : Nat} {w w' : World} {b mb : Nat} {hs : List (Int × Int)} (h : ListIs N w b mb hs) (hk : ∀ k, ListMay mb w k → w'.heap[k]? = w.heap[k]?) : ListIs N w' b mb hs := by
  obtain ⟨ks, m, h1, h2, h3, h4, h5, h6, h7, h8, h9⟩ := h
  exact ⟨ks, m, h1, h2, (hk _ (may_list h3)).trans h3, ⟨h4.1, h4.2.1, fun i x k hi hk' => ⟨(h4.2.2 i x k hi hk').1, (hk _ (may_link (h4.2.2 i x k hi hk').2)).trans (h4.2.2 i x k hi hk').2⟩⟩, h5, h6, h7.kept (hk _ (may_map h7)), h8, h9⟩

theorem ListIs.far {N : Nat} {w : World} {b mb : Nat} {hs : List (Int × Int)} (h : ListIs N w b mb hs) {g : Nat} {t : TypeId} {cs : Array Value} (hg : Has w g t cs) (h1 : t ≠ 58) (h2 : t ≠ 60) (i : Nat) (u : Value) :
    ListIs N (w.setCell ⟨g, i, none⟩ u) b mb hs :=
  h.kept fun k hk => Below.heap_setCell w ⟨g, i, none⟩ u k (fun (e : k = g) => hg.notMay h1 h2 (e ▸ hk))

theorem Turned.may2 {mb : Nat} {w w1 w2 : World} (h : Turned (ListMay mb w) w w1) (k : Turned (ListMay mb w1) w1 w2) (hm : ∀ k, k < w.heap.size → ListMay mb w1 k → ListMay mb w k) : Turned (ListMay mb w) w w2 :=
  h.may k

theorem may_below {mb : Nat} {w W : World} (hb : Below w.heap.size w W) : ∀ k, k < w.heap.size → ListMay mb W k → ListMay mb w k := by
  intro k hk hm
  unfold ListMay at hm ⊢
  rwa [hb.block k hk] at hm

theorem list_pop (N : Nat) (w : World) (b mb : Nat) (hs : List (Int × Int)) (h : ListIs N w b mb hs) (front : Bool) :
    Calls Try.prog 13 #[.pointer (some ⟨b, 0, none⟩), .bool front] w (ListTo N w b mb (popped hs front) (.tuple #[hv ((endOf hs front).getD (0, 0)), .bool (endOf hs front).isSome])) := by
  unfold popped
  have HP := hide (fun W (h : ListIs N W b mb hs) => list_peek N W b mb hs h front)
  have HL := hide h
  have hNw : N ≤ w.heap.size := by
    obtain ⟨ks, m, hNb, _, hb0, _⟩ := h
    exact Nat.le_trans hNb (Nat.le_of_lt hb0.lt)
  cases he : endOf hs front with
  | none =>
    rw [he] at HP
    simp only [Option.getD, Option.isSome, hv] at HP ⊢
    clear h he
    go_enter Try.func13, Try.ntmps13
    go_wp2_with fail
    refine (HP.out _ (HL.out.below ((Below.refl _ w).alloc (Nat.le_refl _) _))).mono ?_
    rintro e W1 ⟨rfl, hb⟩
    have B1 := hide (below_on (w := w) (by go_grown) hb)
    have HR := hide ((Has.new w 29 #[.int .i64 0, .int .u64 0]).below hb (by simp))
    clear hb
    have c0 : W1.cell? ⟨w.heap.size, 0, none⟩ = some (.int .i64 0) := HR.out.cell 0
    have c1 : W1.cell? ⟨w.heap.size, 1, none⟩ = some (.int .u64 0) := HR.out.cell 1
    have f0 := HR.out.free 0
    have f1 := HR.out.free 1
    have hlt := HR.out.lt
    go_wp2_with fail
    have HF := ((HR.out.set 0 (.int .i64 0)).set 1 (.int .u64 0)).alloc (.cells #[.int .i64 0, .int .u64 0] 29)
    have r0 : (((W1.setCell ⟨w.heap.size, 0, none⟩ (.int .i64 0)).setCell ⟨w.heap.size, 1, none⟩ (.int .u64 0)).alloc (.cells #[.int .i64 0, .int .u64 0] 29)).cell? ⟨w.heap.size, 0, none⟩ = some (.int .i64 0) := HF.cell 0
    have r1 : (((W1.setCell ⟨w.heap.size, 0, none⟩ (.int .i64 0)).setCell ⟨w.heap.size, 1, none⟩ (.int .u64 0)).alloc (.cells #[.int .i64 0, .int .u64 0] 29)).cell? ⟨w.heap.size, 1, none⟩ = some (.int .u64 0) := HF.cell 1
    refine bodyPost_ret (by simp [results, Try.results13, go_sem, r0, r1]; rfl) rfl ?_
    have B2 := ((B1.out.setCell (p := ⟨w.heap.size, 0, none⟩) (Nat.le_refl _) (.int .i64 0)).setCell (p := ⟨w.heap.size, 1, none⟩) (Nat.le_refl _) (.int .u64 0)).alloc (by simp [size_set]; exact B1.out.size) (.cells #[.int .i64 0, .int .u64 0] 29)
    exact ⟨rfl, HL.out.below B2, B2.mono hNw, Turned.of_below B2⟩
  | some q =>
    have hok := endOf_ok h he
    have HM := hide (fun W (h : ListIs N W b mb hs) => list_remove N W b mb hs h q hok)
    rw [he] at HP
    obtain ⟨s, g⟩ := q
    simp only [Option.getD, Option.isSome, hv] at HP ⊢
    generalize removed hs (s, g) = hs' at HM ⊢
    generalize (hAt hs (s, g)).isSome = r at HM
    clear h he hok
    go_enter Try.func13, Try.ntmps13
    go_wp2_with fail
    refine (HP.out _ (HL.out.below ((Below.refl _ w).alloc (Nat.le_refl _) _))).mono ?_
    rintro e W1 ⟨rfl, hb⟩
    have B1 := hide (below_on (w := w) (by go_grown) hb)
    have HR := hide ((Has.new w 29 #[.int .i64 0, .int .u64 0]).below hb (by simp))
    clear hb
    have hlt := HR.out.lt
    go_wp2_with fail
    obtain ⟨W2, hW⟩ : ∃ W2, W2 = W1.alloc (.cells #[.int .i64 s, .int .u64 g] 29) := ⟨_, rfl⟩
    have B2 : Hid (Below w.heap.size w W2) := by rw [hW]; exact hide (B1.out.alloc B1.out.size _)
    have HR2 : Hid (Has W2 w.heap.size 29 #[.int .i64 0, .int .u64 0]) := by rw [hW]; exact hide (HR.out.alloc _)
    have HH2 : Hid (Has W2 W1.heap.size 29 #[.int .i64 s, .int .u64 g]) := by rw [hW]; exact hide (Has.new _ _ _)
    rw [← hW]
    clear hW HR
    refine (HM.out _ (HL.out.below B2.out)).mono ?_
    rintro e W3 ⟨rfl, hl, hN, ht⟩
    have HL3 := hide hl
    have hNx : N ≤ W2.heap.size := Nat.le_trans hNw B2.out.size
    have N3 := hide ((B2.out.mono hNw).trans hN)
    have T3 := hide ((Turned.of_below (S := ListMay mb w) B2.out).may2 ht (may_below B2.out))
    have HR3 := hide (HR2.out.turned ht (HR2.out.notMay (by decide) (by decide)))
    have HH3 := hide (HH2.out.turned ht (HH2.out.notMay (by decide) (by decide)))
    clear hl hN ht HR2 HH2
    have c0 : W3.cell? ⟨w.heap.size, 0, none⟩ = some (.int .i64 0) := HR3.out.cell 0
    have c1 : W3.cell? ⟨w.heap.size, 1, none⟩ = some (.int .u64 0) := HR3.out.cell 1
    have f0 := HR3.out.free 0
    have f1 := HR3.out.free 1
    have d0 : W3.cell? ⟨W1.heap.size, 0, none⟩ = some (.int .i64 s) := HH3.out.cell 0
    have d1 : W3.cell? ⟨W1.heap.size, 1, none⟩ = some (.int .u64 g) := HH3.out.cell 1
    go_wp2_with fail
    have HF := (HR3.out.set 0 (.int .i64 s)).set 1 (.int .u64 g)
    have r0 : ((W3.setCell ⟨w.heap.size, 0, none⟩ (.int .i64 s)).setCell ⟨w.heap.size, 1, none⟩ (.int .u64 g)).cell? ⟨w.heap.size, 0, none⟩ = some (.int .i64 s) := HF.cell 0
    have r1 : ((W3.setCell ⟨w.heap.size, 0, none⟩ (.int .i64 s)).setCell ⟨w.heap.size, 1, none⟩ (.int .u64 g)).cell? ⟨w.heap.size, 1, none⟩ = some (.int .u64 g) := HF.cell 1
    refine bodyPost_ret (by simp [results, Try.results13, go_sem, r0, r1]; rfl) rfl ?_
    refine ⟨rfl, (HL3.out.far HR3.out (by decide) (by decide) 0 _).far (HR3.out.set 0 _) (by decide) (by decide) 1 _, (N3.out.setCell (p := ⟨w.heap.size, 0, none⟩) hNw _).setCell (p := ⟨w.heap.size, 1, none⟩) hNw _, ?_⟩
    exact (T3.out.set (p := ⟨w.heap.size, 0, none⟩) (fun (h : w.heap.size < w.heap.size) => absurd h (by omega)) _).set (p := ⟨w.heap.size, 1, none⟩) (fun (h : w.heap.size < w.heap.size) => absurd h (by omega)) _

end Go.Proofs.Ytagminbfboncoaa
