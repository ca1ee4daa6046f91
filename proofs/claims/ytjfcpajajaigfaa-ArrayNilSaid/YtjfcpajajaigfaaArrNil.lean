import Derived.Test.YtjfcpajajaigfaaArrAlive
/-! The law ArrayNil, walked. -/
namespace Go.Proofs.Ytjfcpajajaigfaa
open Go.RowKit Go.Maps Go.Lib
set_option maxHeartbeats 1000000
set_option maxRecDepth 100000

theorem array_nil_walk (w : World) (s : Int) (_ : (Lit.int .i64 s).wf = true) (a : Int) (_ : (Lit.int .i64 a).wf = true) (t : ByteArray) (ht : t.size ≤ maxLen) :
    Calls Try.prog 6 #[.int .i64 s, .int .i64 a, .string t] w fun e w' => e = .returned (.bool true) ∧ Below w.heap.size w w' := by
  have hts : t.size ≤ 9223372036854775807 := by unfold maxLen at ht; omega
  clear ht
  by_cases h : 1024 < t.size
  · have hd : decide ((1024 : Int) < t.size) = true := decide_eq_true (by omega)
    go_enter Try.func6, Try.ntmps6
    go_wp2_with fail
    refine (arr_alive w).mono ?_
    rintro e w1 ⟨rfl, hb⟩
    go_wp2_with fail
    go_ret
    exact ⟨rfl, hb⟩
  · have hd : decide ((1024 : Int) < t.size) = false := decide_eq_false (by omega)
    have HT := hide hts
    go_enter Try.func6, Try.ntmps6
    go_wp2_with fail
    refine (nil_find w t HT.out).mono ?_
    rintro e w1 ⟨rfl, rfl⟩
    go_wp2_with fail
    refine (nil_get w s).mono ?_
    rintro e w2 ⟨rfl, hb2⟩
    have B2 := hide hb2
    clear hb2
    go_wp2_with fail
    refine (nil_write w2 s a t).mono ?_
    rintro e w3 ⟨rfl, rfl⟩
    go_wp2_with fail
    refine (nil_slots w2).mono ?_
    rintro e w3 ⟨rfl, rfl⟩
    go_wp2_with fail
    refine (nil_size w2).mono ?_
    rintro e w3 ⟨rfl, rfl⟩
    go_wp2_with fail
    refine (arr_alive w2).mono ?_
    rintro e w3 ⟨rfl, hb3⟩
    have B3 := hide (B2.out.trans (hb3.mono B2.out.size))
    go_wp2_with fail
    go_ret
    exact ⟨rfl, B3.out⟩

end Go.Proofs.Ytjfcpajajaigfaa
