import Derived.Test.YtjfcpajajaigfaaArr
import Derived.OwnWalk
/-! The calls of package array: the ways that end early, and what is made. -/
namespace Go.Proofs.Ytjfcpajajaigfaa
open Go.RowKit Go.Maps Go.Lib
set_option maxHeartbeats 1000000
set_option maxRecDepth 100000

theorem arr_get_none (w : World) (b mb : Nat) (size n : Int) (l : List (Int × List Int)) (h : ArrIs w b mb size n l) (s : Int) (h0 : ¬ (0 ≤ s ∧ s < n)) :
    Calls Try.prog 17 #[.pointer (some ⟨b, 0, none⟩), .int .i64 s] w fun e w' => e = .returned (.tuple #[.string ⟨#[]⟩, .bool false]) ∧ Below w.heap.size w w' := by
  obtain ⟨hb, _, _⟩ := h
  have C1 := hide (fun w1 h => arr_none w1 b size n mb h)
  have C2 := hide (fun w1 h => arr_there w1 b size n mb h s)
  rw [decide_eq_false h0] at C2
  have hb2 := hide hb
  clear hb
  go_enter Try.func17, Try.ntmps17
  go_wp2_with fail
  refine (C1.out _ hb2.out).mono ?_
  rintro e w2 ⟨rfl, rfl⟩
  go_wp2_with fail
  refine (C2.out _ hb2.out).mono ?_
  rintro e w2 ⟨rfl, rfl⟩
  go_wp2_with fail
  go_ret2
  exact ⟨rfl, Below.refl _ _⟩

theorem arr_write_none (w : World) (b mb : Nat) (size n : Int) (l : List (Int × List Int)) (h : ArrIs w b mb size n l) (s a : Int) (t : ByteArray) (h0 : ¬ (0 ≤ s ∧ s < n)) :
    Calls Try.prog 13 #[.pointer (some ⟨b, 0, none⟩), .int .i64 s, .int .i64 a, .string t] w fun e w' => e = .returned (.int .i64 5) ∧ w = w' := by
  obtain ⟨hb, _, _⟩ := h
  have C1 := hide (fun w1 h => arr_none w1 b size n mb h)
  have C2 := hide (fun w1 h => arr_there w1 b size n mb h s)
  rw [decide_eq_false h0] at C2
  have hb2 := hide hb
  clear hb
  go_enter Try.func13, Try.ntmps13
  go_wp2_with fail
  refine (C1.out _ hb2.out).mono ?_
  rintro e w2 ⟨rfl, rfl⟩
  go_wp2_with fail
  refine (C2.out _ hb2.out).mono ?_
  rintro e w2 ⟨rfl, rfl⟩
  go_wp2_with fail
  go_ret
  exact ⟨rfl, rfl⟩

theorem arr_write_over (w : World) (b mb : Nat) (size n : Int) (l : List (Int × List Int)) (h : ArrIs w b mb size n l) (s a : Int) (t : ByteArray) (h0 : 0 ≤ s ∧ s < n) (hs0 : 1 ≤ size) (hs1 : size ≤ 128) (hts : t.size < 9223372036854775808)
    (ha : ¬ (0 ≤ a ∧ a ≤ size ∧ (t.size : Int) ≤ size - a)) :
    Calls Try.prog 13 #[.pointer (some ⟨b, 0, none⟩), .int .i64 s, .int .i64 a, .string t] w fun e w' => e = .returned (.int .i64 9) ∧ w = w' := by
  obtain ⟨hb, _, _⟩ := h
  have C1 := hide (fun w1 h => arr_none w1 b size n mb h)
  have C2 := hide (fun w1 h => arr_there w1 b size n mb h s)
  rw [decide_eq_true h0] at C2
  have hb2 := hide hb
  have c0 := hb.cell 0
  simp at c0
  clear hb
  by_cases D0 : a < 0
  · go_enter Try.func13, Try.ntmps13
    go_wp2_with fail
    refine (C1.out _ hb2.out).mono ?_
    rintro e w2 ⟨rfl, rfl⟩
    go_wp2_with fail
    refine (C2.out _ hb2.out).mono ?_
    rintro e w2 ⟨rfl, rfl⟩
    go_wp2_with fail
    go_ret
    exact ⟨rfl, rfl⟩
  · by_cases D1 : size < a
    · go_enter Try.func13, Try.ntmps13
      go_wp2_with fail
      refine (C1.out _ hb2.out).mono ?_
      rintro e w2 ⟨rfl, rfl⟩
      go_wp2_with fail
      refine (C2.out _ hb2.out).mono ?_
      rintro e w2 ⟨rfl, rfl⟩
      go_wp2_with fail
      go_ret
      exact ⟨rfl, rfl⟩
    · have D2 : decide (size - a < (t.size : Int)) = true := decide_eq_true (by omega)
      have W1 : IntKind.i64.wrap (size - a) = size - a := wrap_i64 (by omega) (by omega)
      have W2 : IntKind.i64.wrap (t.size : Int) = t.size := wrap_i64 (by omega) (by omega)
      go_enter Try.func13, Try.ntmps13
      go_wp2_with fail
      refine (C1.out _ hb2.out).mono ?_
      rintro e w2 ⟨rfl, rfl⟩
      go_wp2_with fail
      refine (C2.out _ hb2.out).mono ?_
      rintro e w2 ⟨rfl, rfl⟩
      go_wp2_with fail
      go_ret
      exact ⟨rfl, rfl⟩

theorem arr_size (w : World) (b mb : Nat) (size n : Int) (l : List (Int × List Int)) (h : ArrIs w b mb size n l) :
    Calls Try.prog 11 #[.pointer (some ⟨b, 0, none⟩)] w fun e w' => e = .returned (.int .i64 size) ∧ w = w' := by
  obtain ⟨hb, _, _⟩ := h
  have C1 := hide (fun w1 h => arr_none w1 b size n mb h)
  have hb2 := hide hb
  have c0 := hb.cell 0
  simp at c0
  clear hb
  go_enter Try.func11, Try.ntmps11
  go_wp2_with fail
  refine (C1.out _ hb2.out).mono ?_
  rintro e w2 ⟨rfl, rfl⟩
  go_wp2_with fail
  go_ret
  exact ⟨rfl, rfl⟩

theorem arr_new_bad (w : World) (size n : Int) (h : ¬ (1 ≤ size ∧ size ≤ 128 ∧ 1 ≤ n ∧ n ≤ 256)) :
    Calls Try.prog 9 #[.int .i64 size, .int .i64 n] w fun e w' => e = .returned (.tuple #[.pointer none, .int .i64 2]) ∧ w = w' := by
  by_cases D0 : size < 1
  · go_enter Try.func9, Try.ntmps9
    go_wp2
    go_ret2
    exact ⟨rfl, rfl⟩
  · by_cases D1 : 128 < size
    · go_enter Try.func9, Try.ntmps9
      go_wp2
      go_ret2
      exact ⟨rfl, rfl⟩
    · by_cases D2 : n < 1
      · go_enter Try.func9, Try.ntmps9
        go_wp2
        go_ret2
        exact ⟨rfl, rfl⟩
      · have D3 : 256 < n := by omega
        go_enter Try.func9, Try.ntmps9
        go_wp2
        go_ret2
        exact ⟨rfl, rfl⟩

theorem arr_new (w : World) (size n : Int) (h0 : 1 ≤ size) (h1 : size ≤ 128) (h2 : 1 ≤ n) (h3 : n ≤ 256) :
    Calls Try.prog 9 #[.int .i64 size, .int .i64 n] w fun e w' => ∃ b mb, e = .returned (.tuple #[.pointer (some ⟨b, 0, none⟩), .int .i64 0]) ∧ ArrIs w' b mb size n [] ∧ w.heap.size ≤ b ∧ w.heap.size ≤ mb ∧ Turned (fun _ => False) w w' := by
  have D0 : decide (size < 1) = false := decide_eq_false (by omega)
  have D1 : decide (128 < size) = false := decide_eq_false (by omega)
  have D2 : decide (n < 1) = false := decide_eq_false (by omega)
  have D3 : decide (256 < n) = false := decide_eq_false (by omega)
  go_enter Try.func9, Try.ntmps9
  go_wp2_with fail
  rw [run_makeMap]
  go_wp2_with fail
  go_ret2
  have hs : (w.alloc (.map #[] 0)).heap.size = w.heap.size + 1 := by simp
  refine ⟨w.heap.size + 1, w.heap.size, rfl, ⟨?_, ?_, by simp⟩, by omega, Nat.le_refl _, ((Turned.refl _ w).alloc _).alloc _⟩
  · have := Has.new (w.alloc (.map #[] 0)) 71 #[.int .i64 size, .int .i64 n, .map (some w.heap.size)]
    rwa [hs] at this
  · exact MapIs.alloc (MapIs.made w intKey intOk) _

theorem arr_slots (w : World) (b mb : Nat) (size n : Int) (l : List (Int × List Int)) (h : ArrIs w b mb size n l) (hn0 : 0 ≤ n) (hn1 : n ≤ 256) :
    Calls Try.prog 12 #[.pointer (some ⟨b, 0, none⟩)] w fun e w' => ∃ v, e = .returned v ∧ w'.ownsRow w.heap.size 3 1 v n.toNat ((List.range n.toNat).map fun (i : Nat) => Value.int .i64 (i : Int)) ∧ Below w.heap.size w w' := by
  obtain ⟨i0, hi, hz0, hz1, hz2⟩ := info_parts (P := Try.prog) (e := 3) (z := .int .i64 0) (size := 1) (bytes := 8) (by kernel_rfl)
  obtain ⟨hb, _, _⟩ := h
  have C1 := hide (fun w1 h => arr_none w1 b size n mb h)
  have hb2 := hide hb
  have c1 := hb.cell 1
  simp at c1
  clear hb
  go_enter Try.func12, Try.ntmps12
  go_wp2_with fail
  refine (C1.out _ hb2.out).mono ?_
  rintro e w2 ⟨rfl, rfl⟩
  go_wp2_with fail
  go_loopw [2, 10] (fun v i wr => ∃ (k : Nat), (k : Int) ≤ n ∧ i = .int .i64 k ∧ wr.ownsRow w.heap.size 3 1 v k ((List.range k).map fun (i : Nat) => Value.int .i64 (i : Int)) ∧ Below w.heap.size w wr)
    (fun _ i _ => n.toNat - (intOf i).toNat)
  case atStart => exact ⟨0, by omega, rfl, World.ownsRow_nil _ _ _ _, Below.refl _ _⟩
  case round =>
    obtain ⟨k, hk, rfl, hown, hnx⟩ := hrel
    have hsize := hnx.size
    by_cases hlt : (k : Int) < n
    · go_wp2_with (at_builtin; refine wpList_append_own _ rfl _ _ 31 rfl w.heap.size 3 i0 (.int .i64 0) 1 8 Try.underlying31 hi hz0 hz1 hz2 rfl (by decide) _ _ _ rfl (hown.alloc _) ⟨wr.heap.size, 0, none⟩ 1 1 [.int .i64 (k : Int)] rfl rfl (cell_one_new _ _ _) (fun x hx => by simp at hx; subst hx; rfl) (by unfold maxLen; omega) (by omega) (by simp; omega) ?_; intro v' w3 hown' hgrow3 hnil3)
      have hw : IntKind.i64.wrap ((k : Int) + 1) = (k : Int) + 1 := wrap_i64 (by omega) (by omega)
      go_roundw
      case rel =>
        refine ⟨k + 1, by omega, by simp, ?_, (hnx.alloc hsize _).grown hgrow3 (by simp; omega) (fun q hq => (hown.lt q hq).1)⟩
        rw [List.range_succ, List.map_append]
        exact hown'
      case measure => simp [intOf]; omega
    · go_wp2_with fail
      go_ret
      exact ⟨_, rfl, by rw [show n.toNat = k by omega]; exact hown, hnx⟩

end Go.Proofs.Ytjfcpajajaigfaa
