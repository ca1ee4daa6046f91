import Derived.Test.YtjfcpajajaigfaaRefsB
import Derived.Test.YtjfcpajajaigfaaRange
/-! Package refs: Of; the iterator. -/
namespace Go.Proofs.Ytjfcpajajaigfaa
open Go.RowKit Go.Maps Go.Shelf
attribute [local go_sem] Oper.semAt_some
set_option maxHeartbeats 2000000
set_option maxRecDepth 100000
set_option linter.unusedSimpArgs false
set_option linter.unusedVariables false

/-- A region that draws its order, all but whose last operations only read. -/
theorem region_tail {P : Program} {id : Nat} {Q : Exit → Act → World → Prop} {a : Act} {w : World} {l : List Oper} (n : Nat) (hm : P.follows .mixedOrders = true) (hB : Region.lexTailB .any l.toArray n = true)
    (h : ∀ wd, wd = w.drew → wpStill P l.toArray wd (fun a' => wpList P l.toArray Q (l.drop n) a' wd) (l.take n) a) : (Code.region id l.toArray true).wp P Q a w :=
  wp_region_still_tail n hm hB (h _ rfl)

theorem refs_Of (N : Nat) (w : World) (b : Nat) (L : List Rf) (h : RefsIs N w b L) (hL : L.length ≤ 100000) (m : Nat) (x : Rf) (hx : L[m]? = some x) :
    Calls Try.prog 27 #[.pointer (some ⟨b, 0, none⟩), .int .u64 (m + 1 : Nat)] w fun e w' => e = .returned (.tuple #[.agg #[.int .i64 x.s, .int .u64 x.g], .int .u8 x.k]) ∧ Below w.heap.size w w' := by
  obtain ⟨A, c, hb, hown⟩ := h.form
  obtain ⟨g0, cap, hA⟩ := owns_some hown (by have := (List.getElem?_eq_some_iff.1 hx).1; omega)
  injection hA with hA1 _ _
  subst hA1
  obtain ⟨n, hn⟩ : ∃ n, n = L.length := ⟨_, rfl⟩
  have hm : m < n := by have := (List.getElem?_eq_some_iff.1 hx).1; omega
  have hgl : g0 < w.heap.size := owns_lt hown rfl
  obtain ⟨⟨c0, c1, c2⟩, _⟩ := refs_at (b := b) hown hx
  rw [← hn] at hb
  have hbl := hb.lt
  have hn2 : n ≤ 100000 := by omega
  have b1 : w.cell? ⟨b, 1, none⟩ = some (.slice (some ⟨g0, 0, none⟩) n c) := hb.cell 1
  obtain ⟨r, hr⟩ : ∃ r, r = m + 1 := ⟨_, rfl⟩
  rw [← hr]
  have d1 : decide ((r : Int) < 1) = false := decide_eq_false (by omega)
  have d2 : decide ((n : Int) < (r : Int)) = false := decide_eq_false (by omega)
  have hri : (r : Int) - 1 = (m : Int) := by omega
  have hw : IntKind.u64.wrap ((r : Int) - 1) = (m : Int) := by rw [wrap_u64 (by omega) (by omega)]; exact hri
  have hw2 : IntKind.u64.wrap (n : Int) = (n : Int) := wrap_u64 (by omega) (by omega)
  have hr1 : ¬ r < 1 := by omega
  have hr2 : ¬ n < r := by omega
  obtain ⟨xs, xg, xk⟩ := x
  simp only [] at c0 c1 c2 ⊢
  obtain ⟨w0, hw0⟩ : ∃ w0, w0 = w.alloc (.cells #[.int .i64 0, .int .u64 0] 58) := ⟨_, rfl⟩
  have HB0 := hide (show Below w.heap.size w w0.drew by rw [hw0]; exact ((Below.refl _ w).alloc (Nat.le_refl _) _).drew)
  have HZ := hide (show Has w0.drew w.heap.size 58 #[.int .i64 0, .int .u64 0] by rw [hw0]; exact Has.new _ _ _)
  have HW0 := hide hw0
  have HX := hide (And.intro hr (And.intro hri hx))
  clear h hb hown hx hn hr hri hL hw0
  go_enter Try.func27, Try.ntmps27
  go_wp2_with fail
  rw [← HW0.out]
  have b1 : w0.cell? ⟨b, 1, none⟩ = some (.slice (some ⟨g0, 0, none⟩) n c) := (cell_below HB0.out hbl).trans b1
  have c0 : w0.cell? ⟨g0, m * 3, none⟩ = some (.int .i64 xs) := (cell_below HB0.out hgl).trans c0
  have c1 : w0.cell? ⟨g0, m * 3 + 1, none⟩ = some (.int .u64 xg) := (cell_below HB0.out hgl).trans c1
  have c2 : w0.cell? ⟨g0, m * 3 + 2, none⟩ = some (.int .u8 xk) := (cell_below HB0.out hgl).trans c2
  have z0 : w0.cell? ⟨w.heap.size, 0, none⟩ = some (.int .i64 0) := HZ.out.cell 0
  have z1 : w0.cell? ⟨w.heap.size, 1, none⟩ = some (.int .u64 0) := HZ.out.cell 1
  have y0 : w0.frozen? ⟨w.heap.size, 0, none⟩ = false := HZ.out.free 0
  have y1 : w0.frozen? ⟨w.heap.size, 1, none⟩ = false := HZ.out.free 1
  have n1 : ¬ b = w.heap.size := by omega
  have n2 : ¬ w.heap.size = b := by omega
  have n3 : ¬ g0 = w.heap.size := by omega
  have n4 : ¬ w.heap.size = g0 := by omega
  go_region
  all_goals
    go_wp2_with fail
    refine bodyPost_ret (by simp [results, Try.results27, go_sem, z0, z1]; rfl) rfl ?_
    exact ⟨rfl, (HB0.out.setCell (p := ⟨w.heap.size, 0, none⟩) (Nat.le_refl _) _).setCell (p := ⟨w.heap.size, 1, none⟩) (Nat.le_refl _) _⟩

theorem refs_are (w : World) (b : Nat) (k : Int) : Calls Try.prog 35 #[.pointer (some ⟨b, 0, none⟩), .int .u8 k] w fun e w' =>
    ∃ bc bk, e = .returned (.func (.func 39) #[] #[.pointer (some ⟨bc, 0, none⟩), .pointer (some ⟨bk, 0, none⟩)]) ∧ w.heap.size ≤ bc ∧ w.heap.size ≤ bk ∧ Has w' bc 54 #[.pointer (some ⟨b, 0, none⟩)] ∧ Has w' bk 5 #[.int .u8 k] ∧ Below w.heap.size w w' := by
  have hmf : ∀ (fn : Fn) (first cap : Array Value) (w : World), (Instr.makeFunc fn first cap).run Try.prog w = .ok (.func fn first cap) w := fun _ _ _ _ => rfl
  go_enter Try.func35, Try.ntmps35
  go_wp2_with fail
  go_returns
  exact ⟨_, _, rfl, Nat.le_refl _, by omega, (Has.new _ _ _).alloc _, by simpa using Has.new (w.alloc (.cells #[.pointer (some ⟨b, 0, none⟩)] 54)) 5 #[.int .u8 k], by go_grown⟩

end Go.Proofs.Ytjfcpajajaigfaa
