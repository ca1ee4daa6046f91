import Derived.Test.YtjhfhognacjipaaProg
import Derived.Test.YtjhfhognacjipaaBase
/-! The calls of package lock: what each answers, and what becomes of the lock in memory. -/
namespace Go.Proofs.Ytjhfhognacjipaa
open Go.RowKit
set_option maxHeartbeats 400000

/-- The lock at block b: what is held (by the block that says so), and the epoch. -/
def LockIs (w : World) (b : Nat) (h : Option (Int × Int)) (n : Int) : Prop :=
  match h with
  | none => Has w b 59 #[.pointer none, .int .u64 n]
  | some (m, s) => ∃ c, Has w b 59 #[.pointer (some ⟨c, 0, none⟩), .int .u64 n] ∧ Has w c 60 #[.int .i64 m, .int .i64 s]

theorem LockIs.drewN {w : World} {b : Nat} {h : Option (Int × Int)} {n : Int} (x : LockIs w b h n) (k : Nat) : LockIs (w.drewN k) b h n := by
  cases h with
  | none => exact x
  | some q => exact x

theorem LockIs.lt {w : World} {b : Nat} {h : Option (Int × Int)} {n : Int} (x : LockIs w b h n) : b < w.heap.size := by
  cases h with
  | none => exact Has.lt x
  | some q => obtain ⟨_, x, _⟩ := x; exact x.lt

theorem LockIs.alloc {w : World} {b : Nat} {h : Option (Int × Int)} {n : Int} (x : LockIs w b h n) (o : Obj) : LockIs (w.alloc o) b h n := by
  cases h with
  | none => exact Has.alloc x o
  | some q => obtain ⟨c, x, y⟩ := x; exact ⟨c, x.alloc o, y.alloc o⟩

theorem LockIs.far {w : World} {b : Nat} {h : Option (Int × Int)} {n : Int} (x : LockIs w b h n) {g : Nat} {t : TypeId} {cs : Array Value} (hg : Has w g t cs)
    (h1 : t ≠ 59) (h2 : t ≠ 60) (i : Nat) (u : Value) : LockIs (w.setCell ⟨g, i, none⟩ u) b h n := by
  cases h with
  | none => exact Has.far x (p := ⟨g, i, none⟩) (fun e => hg.ne x h1 e.symm) u
  | some q =>
    obtain ⟨c, x, y⟩ := x
    exact ⟨c, x.far (p := ⟨g, i, none⟩) (fun e => hg.ne x h1 e.symm) u, y.far (p := ⟨g, i, none⟩) (fun e => hg.ne y h2 e.symm) u⟩

/-- What may have turned: the lock's own block. -/
def LockMay (b : Nat) : Nat → Prop := fun k => k = b

theorem lock_new (w : World) : Calls Try.prog 13 #[] w fun e w' => e = .returned (.pointer (some ⟨w.heap.size, 0, none⟩)) ∧ LockIs w' w.heap.size none 0 ∧ w' = w.alloc (.cells #[.pointer none, .int .u64 0] 59 (0, 0)) := by
  go_enter Try.func13, Try.ntmps13
  go_wp2
  go_ret
  exact ⟨rfl, Has.new _ _ _, rfl⟩

theorem lock_take_none (w : World) (b : Nat) (m s n : Int) (h : LockIs w b none n) :
    Calls Try.prog 15 #[.pointer (some ⟨b, 0, none⟩), .int .i64 m, .int .i64 s] w fun e w' =>
      e = .returned (.int .i64 0) ∧ LockIs w' b (some (m, s)) n ∧ Turned (LockMay b) w w' := by
  have hh : Has w b _ _ := h
  have H := hide hh
  have hlt := hh.lt
  have c0 := hh.cell 0
  have f0 := hh.free 0
  simp at c0
  clear h hh
  go_enter Try.func15, Try.ntmps15
  go_wp2
  go_ret
  have hb := H.out.lt
  refine ⟨rfl, ⟨w.heap.size, ?_, ?_⟩, ?_⟩
  · exact (H.out.set 0 _).alloc _
  · have hn := Has.new (w.setCell ⟨b, 0, none⟩ (.pointer (some ⟨w.heap.size, 0, none⟩))) 60 #[.int .i64 m, .int .i64 s]
    rw [size_set] at hn
    exact hn
  · exact ((Turned.refl (LockMay b) w).set (p := ⟨b, 0, none⟩) (fun _ => rfl) _).alloc _

theorem lock_take_some (w : World) (b : Nat) (m s n : Int) (q : Int × Int) (h : LockIs w b (some q) n) :
    Calls Try.prog 15 #[.pointer (some ⟨b, 0, none⟩), .int .i64 m, .int .i64 s] w fun e w' =>
      e = .returned (.int .i64 3) ∧ w = w' := by
  obtain ⟨c, hh, h2⟩ := h
  have c0 := hh.cell 0
  simp at c0
  clear hh h2
  go_enter Try.func15, Try.ntmps15
  go_wp2
  go_ret
  exact ⟨rfl, rfl⟩

theorem lock_is_none (w : World) (b : Nat) (m s n : Int) (h : LockIs w b none n) :
    Calls Try.prog 18 #[.pointer (some ⟨b, 0, none⟩), .int .i64 m, .int .i64 s] w fun e w' =>
      e = .returned (.bool false) ∧ w = w' := by
  have hh : Has w b _ _ := h
  have c0 := hh.cell 0
  simp at c0
  clear h hh
  go_enter Try.func18, Try.ntmps18
  go_wp2
  go_ret
  exact ⟨rfl, rfl⟩

theorem lock_is_some (w : World) (b : Nat) (m s n : Int) (m2 s2 : Int) (h : LockIs w b (some (m2, s2)) n) :
    Calls Try.prog 18 #[.pointer (some ⟨b, 0, none⟩), .int .i64 m, .int .i64 s] w fun e w' =>
      e = .returned (.bool (m2 == m && s2 == s)) ∧ w = w' := by
  obtain ⟨c, hh, h2⟩ := h
  have c0 := hh.cell 0
  have d0 := h2.cell 0
  have d1 := h2.cell 1
  simp at c0 d0 d1
  clear hh h2
  go_enter Try.func18, Try.ntmps18
  go_wp2
  all_goals
    go_ret
    exact ⟨by simp [*], rfl⟩

theorem lock_held_none (w : World) (b : Nat) (n : Int) (h : LockIs w b none n) :
    Calls Try.prog 16 #[.pointer (some ⟨b, 0, none⟩)] w fun e w' =>
      e = .returned (.tuple #[.int .i64 0, .int .i64 0, .bool false]) ∧ w = w' := by
  have hh : Has w b _ _ := h
  have c0 := hh.cell 0
  simp at c0
  clear h hh
  go_enter Try.func16, Try.ntmps16
  go_wp2
  go_ret3
  exact ⟨rfl, rfl⟩

theorem lock_held_some (w : World) (b : Nat) (n : Int) (m2 s2 : Int) (h : LockIs w b (some (m2, s2)) n) :
    Calls Try.prog 16 #[.pointer (some ⟨b, 0, none⟩)] w fun e w' =>
      e = .returned (.tuple #[.int .i64 m2, .int .i64 s2, .bool true]) ∧ ∃ k, w' = w.drewN k := by
  obtain ⟨c, hh, h2⟩ := h
  have c0 := hh.cell 0
  have d0 := h2.cell 0
  have d1 := h2.cell 1
  simp at c0 d0 d1
  clear hh h2
  go_enter Try.func16, Try.ntmps16
  go_wp2
  go_quiet (fail)
  go_wp2
  go_ret3
  exact ⟨rfl, _, rfl⟩

theorem lock_epoch (w : World) (b : Nat) (n : Int) (h : Option (Int × Int)) (hl : LockIs w b h n) :
    Calls Try.prog 17 #[.pointer (some ⟨b, 0, none⟩)] w fun e w' =>
      e = .returned (.int .u64 n) ∧ w = w' := by
  have c1 : w.cell? ⟨b, 1, none⟩ = some (.int .u64 n) := by
    cases h with
    | none => exact Has.cell hl 1
    | some q => obtain ⟨c, hh, _⟩ := hl; exact hh.cell 1
  clear hl
  go_enter Try.func17, Try.ntmps17
  go_wp2
  go_ret
  exact ⟨rfl, rfl⟩

theorem lock_give_none (w : World) (b : Nat) (m s n : Int) (h : LockIs w b none n) :
    Calls Try.prog 14 #[.pointer (some ⟨b, 0, none⟩), .int .i64 m, .int .i64 s] w fun e w' =>
      e = .returned (.int .i64 3) ∧ w = w' := by
  have H := lock_is_none w b m s n h
  have H2 := hide H
  clear h H
  go_enter Try.func14, Try.ntmps14
  go_wp2_with fail
  refine H2.out.mono ?_
  rintro e w1 ⟨rfl, rfl⟩
  go_wp2
  go_ret
  exact ⟨rfl, rfl⟩

theorem lock_give_other (w : World) (b : Nat) (m s n : Int) (m2 s2 : Int) (h : LockIs w b (some (m2, s2)) n) (hne : (m2 == m && s2 == s) = false) :
    Calls Try.prog 14 #[.pointer (some ⟨b, 0, none⟩), .int .i64 m, .int .i64 s] w fun e w' =>
      e = .returned (.int .i64 3) ∧ w = w' := by
  have H := lock_is_some w b m s n m2 s2 h
  rw [hne] at H
  have H2 := hide H
  clear h H hne
  go_enter Try.func14, Try.ntmps14
  go_wp2_with fail
  refine H2.out.mono ?_
  rintro e w1 ⟨rfl, rfl⟩
  go_wp2
  go_ret
  exact ⟨rfl, rfl⟩

theorem lock_give_some (w : World) (b : Nat) (m s n : Int) (h : LockIs w b (some (m, s)) n) :
    Calls Try.prog 14 #[.pointer (some ⟨b, 0, none⟩), .int .i64 m, .int .i64 s] w fun e w' =>
      e = .returned (.int .i64 0) ∧ LockIs w' b none (IntKind.u64.wrap (n + 1)) ∧ Turned (LockMay b) w w' := by
  have H := lock_is_some w b m s n m s h
  rw [show (m == m && s == s) = true by simp] at H
  have H2 := hide H
  obtain ⟨c, hh, h2⟩ := h
  have HH := hide hh
  have hlt := hh.lt
  have c0 := hh.cell 0
  have f0 := hh.free 0
  have c1 := hh.cell 1
  have f1 := hh.free 1
  simp at c0 c1
  clear hh h2 H
  go_enter Try.func14, Try.ntmps14
  go_wp2_with fail
  refine H2.out.mono ?_
  rintro e w1 ⟨rfl, rfl⟩
  go_wp2
  go_ret
  refine ⟨rfl, ?_, ?_⟩
  · exact (HH.out.set 0 _).set 1 _
  · exact ((Turned.refl (LockMay b) w).set (p := ⟨b, 0, none⟩) (fun _ => rfl) _).set (p := ⟨b, 1, none⟩) (fun _ => rfl) _

end Go.Proofs.Ytjhfhognacjipaa
