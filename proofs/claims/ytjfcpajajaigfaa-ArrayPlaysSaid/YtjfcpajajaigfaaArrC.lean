import Derived.Test.YtjfcpajajaigfaaArrB
import Derived.Test.YtjfcpajajaigfaaWordWalks
/-! Package array: Find; none; what the document's answer does. -/
namespace Go.Proofs.Ytjfcpajajaigfaa
open Go.RowKit Go.Maps Go.Lib
set_option maxHeartbeats 1000000
set_option maxRecDepth 100000

theorem ArrIs.kept {w w' : World} {b mb : Nat} {size n : Int} {l : List (Int × List Int)} (h : ArrIs w b mb size n l) (h1 : w'.heap[b]? = w.heap[b]?) (h2 : w'.heap[mb]? = w.heap[mb]?) : ArrIs w' b mb size n l :=
  ⟨h1.trans h.1, h.2.1.kept h2, h.2.2⟩
theorem ArrIs.below {w w' : World} {b mb : Nat} {size n : Int} {l : List (Int × List Int)} (h : ArrIs w b mb size n l) (hb : Below w.heap.size w w') : ArrIs w' b mb size n l :=
  h.kept (hb.block _ h.1.lt) (hb.block _ h.2.1.lt)

/-- What Find answers at n slots. -/
def findOf (key : ByteArray) (n : Int) : Int × Int :=
  if key.size = 4 then (if numAt key 0 4 < n then (numAt key 0 4, 0) else (0, 5)) else (0, 2)

theorem wordGet_key {key : ByteArray} (h : key.size = 4) : wordGet key 0 4 = (numAt key 0 4, 0) := by
  unfold wordGet
  rw [if_neg (by omega), if_neg (by omega)]
  rfl

theorem arr_find (w : World) (b mb : Nat) (size n : Int) (l : List (Int × List Int)) (h : ArrIs w b mb size n l) (key : ByteArray) (hk : key.size ≤ 9223372036854775807) :
    Calls Try.prog 15 #[.pointer (some ⟨b, 0, none⟩), .string key] w fun e w' => e = .returned (.tuple #[.int .i64 (findOf key n).1, .int .i64 (findOf key n).2]) ∧ w = w' := by
  obtain ⟨hb, _, _⟩ := h
  have C1 := hide (fun w1 h => arr_none w1 b size n mb h)
  have C2 := hide (fun w1 s h => arr_there w1 b size n mb h s)
  have G := word_get key 0 4 hk w
  have hb2 := hide hb
  clear hb
  unfold findOf
  by_cases h4 : key.size = 4
  · rw [if_pos h4]
    have hr := numAt_range key 0 4
    rw [wordGet_key h4] at G
    have G := hide G
    have W1 : IntKind.i64.wrap (numAt key 0 4) = numAt key 0 4 := wrap_i64 (by omega) (by omega)
    have K1 : decide ((key.size : Int) = 4) = true := decide_eq_true (by omega)
    by_cases hl : numAt key 0 4 < n
    · rw [if_pos hl]
      have C2 := fun w1 h => C2.out w1 (numAt key 0 4) h
      rw [decide_eq_true (show 0 ≤ numAt key 0 4 ∧ numAt key 0 4 < n from ⟨hr.1, hl⟩)] at C2
      have C2 := hide C2
      generalize numAt key 0 4 = x at *
      go_enter Try.func15, Try.ntmps15
      go_wp2_with fail
      refine G.out.mono ?_
      rintro e w2 ⟨rfl, rfl⟩
      go_wp2_with fail
      refine (C1.out _ hb2.out).mono ?_
      rintro e w2 ⟨rfl, rfl⟩
      go_wp2_with fail
      refine (C2.out _ hb2.out).mono ?_
      rintro e w2 ⟨rfl, rfl⟩
      go_wp2_with fail
      go_ret2
      exact ⟨rfl, rfl⟩
    · rw [if_neg hl]
      have C2 := fun w1 h => C2.out w1 (numAt key 0 4) h
      rw [decide_eq_false (show ¬ (0 ≤ numAt key 0 4 ∧ numAt key 0 4 < n) from fun h => hl h.2)] at C2
      have C2 := hide C2
      generalize numAt key 0 4 = x at *
      go_enter Try.func15, Try.ntmps15
      go_wp2_with fail
      refine G.out.mono ?_
      rintro e w2 ⟨rfl, rfl⟩
      go_wp2_with fail
      refine (C1.out _ hb2.out).mono ?_
      rintro e w2 ⟨rfl, rfl⟩
      go_wp2_with fail
      refine (C2.out _ hb2.out).mono ?_
      rintro e w2 ⟨rfl, rfl⟩
      go_wp2_with fail
      go_ret2
      exact ⟨rfl, rfl⟩
  · rw [if_neg h4]
    have K1 : decide ((key.size : Int) = 4) = false := decide_eq_false (by omega)
    have G := hide G
    obtain ⟨c, hc⟩ : ∃ c, c = (wordGet key 0 4).2 := ⟨_, rfl⟩
    by_cases hc0 : c = 0
    · rw [← hc, hc0] at G
      go_enter Try.func15, Try.ntmps15
      go_wp2_with fail
      refine G.out.mono ?_
      rintro e w2 ⟨rfl, rfl⟩
      go_wp2_with fail
      refine (C1.out _ hb2.out).mono ?_
      rintro e w2 ⟨rfl, rfl⟩
      go_wp2_with fail
      go_ret2
      exact ⟨rfl, rfl⟩
    · rw [← hc] at G
      have hcd : (c == 0) = false := beq_eq_false_iff_ne.2 hc0
      clear hc
      go_enter Try.func15, Try.ntmps15
      go_wp2_with fail
      refine G.out.mono ?_
      rintro e w2 ⟨rfl, rfl⟩
      go_wp2_with fail
      refine (C1.out _ hb2.out).mono ?_
      rintro e w2 ⟨rfl, rfl⟩
      go_wp2_with fail
      go_ret2
      exact ⟨rfl, rfl⟩

/-! No array. -/
theorem nil_none (w : World) : Calls Try.prog 28 #[.pointer none] w fun e w' => e = .returned (.bool true) ∧ w = w' := by
  go_enter Try.func28, Try.ntmps28
  go_wp2
  go_ret
  exact ⟨rfl, rfl⟩

theorem nil_get (w : World) (s : Int) : Calls Try.prog 17 #[.pointer none, .int .i64 s] w fun e w' => e = .returned (.tuple #[.string ⟨#[]⟩, .bool false]) ∧ Below w.heap.size w w' := by
  go_enter Try.func17, Try.ntmps17
  go_wp2_with fail
  refine (nil_none _).mono ?_
  rintro e w2 ⟨rfl, rfl⟩
  go_wp2_with fail
  go_ret2
  exact ⟨rfl, Below.refl _ _⟩

theorem nil_write (w : World) (s a : Int) (t : ByteArray) : Calls Try.prog 13 #[.pointer none, .int .i64 s, .int .i64 a, .string t] w fun e w' => e = .returned (.int .i64 1) ∧ w = w' := by
  go_enter Try.func13, Try.ntmps13
  go_wp2_with fail
  refine (nil_none _).mono ?_
  rintro e w2 ⟨rfl, rfl⟩
  go_wp2_with fail
  go_ret
  exact ⟨rfl, rfl⟩

theorem nil_slots (w : World) : Calls Try.prog 12 #[.pointer none] w fun e w' => e = .returned (.slice none 0 0) ∧ w = w' := by
  go_enter Try.func12, Try.ntmps12
  go_wp2_with fail
  refine (nil_none _).mono ?_
  rintro e w2 ⟨rfl, rfl⟩
  go_wp2_with fail
  go_ret
  exact ⟨rfl, rfl⟩

theorem nil_size (w : World) : Calls Try.prog 11 #[.pointer none] w fun e w' => e = .returned (.int .i64 0) ∧ w = w' := by
  go_enter Try.func11, Try.ntmps11
  go_wp2_with fail
  refine (nil_none _).mono ?_
  rintro e w2 ⟨rfl, rfl⟩
  go_wp2_with fail
  go_ret
  exact ⟨rfl, rfl⟩

theorem nil_find (w : World) (key : ByteArray) (hk : key.size ≤ 9223372036854775807) : Calls Try.prog 15 #[.pointer none, .string key] w fun e w' => e = .returned (.tuple #[.int .i64 0, .int .i64 1]) ∧ w = w' := by
  have G := hide (word_get key 0 4 hk w)
  go_enter Try.func15, Try.ntmps15
  go_wp2_with fail
  refine G.out.mono ?_
  rintro e w2 ⟨rfl, rfl⟩
  go_wp2_with fail
  refine (nil_none _).mono ?_
  rintro e w2 ⟨rfl, rfl⟩
  go_wp2_with fail
  go_ret2
  exact ⟨rfl, rfl⟩

end Go.Proofs.Ytjfcpajajaigfaa
