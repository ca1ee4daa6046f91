import Derived.Test.YtdlgipoaimgbpaaProg
import Derived.Test.YtdlgipoaimgbpaaGrow
import Derived.Test.YtdlgipoaimgbpaaRange
import Derived.Test.YtdlgipoaimgbpaaOpen
import Derived.WalkKit
import Derived.Handy
/-! kfunc.Takes: the library's Index, Contains on the four; IndexFunc. -/
namespace Go.Proofs.Ytdlgipoaimgbpaa
open Go.RowKit
set_option maxHeartbeats 4000000
set_option maxRecDepth 100000
set_option linter.unusedSimpArgs false

theorem kf_index (w : World) (b : Nat) (a : Int) (hb : w.heap[b]? = some (.cells #[.int .u8 4, .int .u8 7, .int .u8 10, .int .u8 12] 5)) :
    Calls Try.prog 66 #[.slice (some ⟨b, 0, none⟩) 4 4, .int .u8 a] w fun e w' => e = .returned (.int .i64 (if 4 = a then 0 else if 7 = a then 1 else if 10 = a then 2 else if 12 = a then 3 else -1)) ∧ w = w' := by
  have c0 : w.cell? ⟨b, 0, none⟩ = some (.int .u8 4) := by simp [World.cell?, hb]
  have c1 : w.cell? ⟨b, 1, none⟩ = some (.int .u8 7) := by simp [World.cell?, hb]
  have c2 : w.cell? ⟨b, 2, none⟩ = some (.int .u8 10) := by simp [World.cell?, hb]
  have c3 : w.cell? ⟨b, 3, none⟩ = some (.int .u8 12) := by simp [World.cell?, hb]
  clear hb
  by_cases h0 : 4 = a
  · subst h0
    go_enter Try.func66, Try.ntmps66
    go_wp2_with fail
    refine wp_loop_rounds 6 ?_
    repeat (rw [rounds_succ]; go_wp2_with fail)
    go_ret
    exact ⟨rfl, rfl⟩
  by_cases h1 : 7 = a
  · subst h1
    go_enter Try.func66, Try.ntmps66
    go_wp2_with fail
    refine wp_loop_rounds 6 ?_
    repeat (rw [rounds_succ]; go_wp2_with fail)
    go_ret
    exact ⟨rfl, rfl⟩
  by_cases h2 : 10 = a
  · subst h2
    go_enter Try.func66, Try.ntmps66
    go_wp2_with fail
    refine wp_loop_rounds 6 ?_
    repeat (rw [rounds_succ]; go_wp2_with fail)
    go_ret
    exact ⟨rfl, rfl⟩
  by_cases h3 : 12 = a
  · subst h3
    go_enter Try.func66, Try.ntmps66
    go_wp2_with fail
    refine wp_loop_rounds 6 ?_
    repeat (rw [rounds_succ]; go_wp2_with fail)
    go_ret
    exact ⟨rfl, rfl⟩
  have e0 : (a == 4) = false := beq_eq_false_iff_ne.2 (Ne.symm h0)
  have e1 : (a == 7) = false := beq_eq_false_iff_ne.2 (Ne.symm h1)
  have e2 : (a == 10) = false := beq_eq_false_iff_ne.2 (Ne.symm h2)
  have e3 : (a == 12) = false := beq_eq_false_iff_ne.2 (Ne.symm h3)
  rw [if_neg h0, if_neg h1, if_neg h2, if_neg h3]
  go_enter Try.func66, Try.ntmps66
  go_wp2_with fail
  refine wp_loop_rounds 6 ?_
  repeat (rw [rounds_succ]; go_wp2_with fail)
  go_ret
  exact ⟨rfl, rfl⟩

/-- The sorts of arguments that take an object away. -/
def kTakes (a : Int) : Bool := a == 4 || a == 7 || a == 10 || a == 12

theorem kf_contains (w : World) (b : Nat) (a : Int) (hb : w.heap[b]? = some (.cells #[.int .u8 4, .int .u8 7, .int .u8 10, .int .u8 12] 5)) :
    Calls Try.prog 56 #[.slice (some ⟨b, 0, none⟩) 4 4, .int .u8 a] w fun e w' => e = .returned (.bool (kTakes a)) ∧ w = w' := by
  have hr : (decide ((if 4 = a then 0 else if 7 = a then 1 else if 10 = a then 2 else if 12 = a then 3 else -1 : Int) ≥ 0)) = kTakes a := by
    unfold kTakes
    by_cases h0 : 4 = a
    · subst h0; rfl
    by_cases h1 : 7 = a
    · subst h1; rfl
    by_cases h2 : 10 = a
    · subst h2; rfl
    by_cases h3 : 12 = a
    · subst h3; rfl
    rw [if_neg h0, if_neg h1, if_neg h2, if_neg h3, beq_eq_false_iff_ne.2 (Ne.symm h0), beq_eq_false_iff_ne.2 (Ne.symm h1), beq_eq_false_iff_ne.2 (Ne.symm h2), beq_eq_false_iff_ne.2 (Ne.symm h3)]
    rfl
  go_enter Try.func56, Try.ntmps56
  go_wp2_with fail
  refine (kf_index w b a hb).mono ?_
  rintro e w1 ⟨rfl, rfl⟩
  generalize (if 4 = a then (0 : Int) else if 7 = a then 1 else if 10 = a then 2 else if 12 = a then 3 else -1) = r at hr ⊢
  go_wp2_with fail
  go_ret
  exact ⟨by simp [← hr], rfl⟩

theorem kf_one (w : World) (a : Int) : Calls Try.prog 55 #[.int .u8 a] w fun e w' => e = .returned (.bool (kTakes a)) ∧ Below w.heap.size w w' := by
  go_enter Try.func55, Try.ntmps55
  go_wp2_with fail
  refine (kf_contains _ _ a (World.alloc_heap_new _ _)).mono ?_
  rintro e w1 ⟨rfl, rfl⟩
  go_wp2_with fail
  go_ret
  exact ⟨rfl, (Below.refl _ w).alloc (Nat.le_refl _) _⟩

def kIdx (l : List Int) : Int := match l.findIdx? kTakes with | some k => (k : Int) | none => -1

theorem kIdx_none {l : List Int} (h : ∀ (j : Nat) (y : Int), l[j]? = some y → kTakes y = false) : kIdx l = -1 := by
  unfold kIdx
  rw [List.findIdx?_eq_none_iff.2 (fun x hx => by
    obtain ⟨j, hj⟩ := List.getElem?_of_mem hx
    rw [h j x hj])]

theorem kIdx_some {l : List Int} {k : Nat} {y : Int} (h : ∀ (j : Nat) (z : Int), j < k → l[j]? = some z → kTakes z = false) (hk : l[k]? = some y) (hy : kTakes y = true) : kIdx l = k := by
  unfold kIdx
  have hlt := (List.getElem?_eq_some_iff.1 hk).1
  have : l.findIdx? kTakes = some k := by
    rw [List.findIdx?_eq_some_iff_getElem]
    refine ⟨hlt, ?_, fun j hj => ?_⟩
    · have := (List.getElem?_eq_some_iff.1 hk).2
      rw [this, hy]
    · rw [h j _ hj (List.getElem?_eq_getElem (by omega))]; simp
  rw [this]

theorem kf_indexFunc (w : World) (A : Option Addr) (n c : Nat) (l : List Int) (hl : l.length = n) (hS : SliceOf w A 1 (l.map fun x => [Value.int .u8 x])) (hn : (n : Int) ≤ 9223372036854775807) :
    Calls Try.prog 54 #[.slice A n c, .func (.func 55) #[] #[]] w fun e w' => e = .returned (.int .i64 (kIdx l)) ∧ Below w.heap.size w w' := by
  go_enter Try.func54, Try.ntmps54
  go_wp2_with fail
  go_loopw [8] (fun i wr => ∃ (k : Nat), k ≤ n ∧ i = .int .i64 k ∧ (∀ j z, j < k → l[j]? = some z → kTakes z = false) ∧ Below w.heap.size w wr) (fun i _ => n - (intOf i).toNat)
  case atStart => exact ⟨0, Nat.zero_le _, rfl, fun j z hj => by omega, Below.refl _ w⟩
  case round =>
    obtain ⟨k, hk, rfl, hno, hB⟩ := hrel
    by_cases hd : k < n
    · have hd' : (k : Int) < n := by omega
      obtain ⟨y, hy⟩ : ∃ x, l[k]? = some x := ⟨_, List.getElem?_eq_getElem (by rw [hl]; exact hd)⟩
      obtain ⟨cb, off, rfl, hcb, hcells⟩ := hS.at_ hB (i := k) (cs := [.int .u8 y]) (by rw [List.getElem?_map, hy]; rfl)
      have e0 : wr.cell? ⟨cb, off + k, none⟩ = some (.int .u8 y) := by have := hcells 0 _ rfl; simpa using this
      have hd2 : decide ((k : Int) < n) = true := decide_eq_true hd'
      have hk0 : (0 : Int) ≤ k := by omega
      cases ht : kTakes y with
      | true =>
        go_wp2_with fail
        refine (kf_one wr y).mono ?_
        rintro e w1 ⟨rfl, hb1⟩
        rw [ht]
        go_wp2_with fail
        go_ret
        exact ⟨by rw [kIdx_some hno hy ht]; rfl, hB.trans (hb1.mono hB.size)⟩
      | false =>
        go_wp2_with fail
        refine (kf_one wr y).mono ?_
        rintro e w1 ⟨rfl, hb1⟩
        rw [ht]
        go_wp2_with fail
        go_roundw
        case rel =>
          refine ⟨k + 1, by omega, by simp, fun j z hj hz => ?_, hB.trans (hb1.mono hB.size)⟩
          rcases Nat.lt_or_ge j k with h | h
          · exact hno j z h hz
          · have : j = k := by omega
            subst this
            rw [hy] at hz
            cases hz
            exact ht
        case measure => simp [intOf]; omega
    · have hkn : k = n := by omega
      subst hkn
      have hd2 : decide ((k : Int) < k) = false := by simp
      go_wp2_with fail
      go_ret
      exact ⟨by rw [kIdx_none (fun j z hz => hno j z (by have := (List.getElem?_eq_some_iff.1 hz).1; omega) hz)]; rfl, hB⟩

theorem kf_takes (w : World) (A : Option Addr) (n c : Nat) (l : List Int) (g : Int) (lk un : Bool) (hl : l.length = n) (hS : SliceOf w A 1 (l.map fun x => [Value.int .u8 x])) (hn : (n : Int) ≤ 9223372036854775807) :
    Calls Try.prog 20 #[.agg #[.slice A n c, .int .u8 g, .bool lk, .bool un]] w fun e w' => e = .returned (.tuple #[.int .i64 (max (kIdx l) 0), .bool (decide (kIdx l ≥ 0))]) ∧ Below w.heap.size w w' := by
  go_enter Try.func20, Try.ntmps20
  go_wp2_with fail
  refine (kf_indexFunc _ A n c l hl (hS.below ((Below.refl _ w).alloc (Nat.le_refl _) _)) hn).mono ?_
  rintro e w1 ⟨rfl, hb1⟩
  obtain ⟨r, hr⟩ : ∃ r, kIdx l = r := ⟨_, rfl⟩
  rw [hr]
  go_wp2_with fail
  · go_ret2
    refine ⟨?_, ((Below.refl _ w).alloc (Nat.le_refl _) _).trans (hb1.mono (by simp))⟩
    rw [show max r 0 = 0 by omega]
    rfl
  · go_ret2
    refine ⟨?_, ((Below.refl _ w).alloc (Nat.le_refl _) _).trans (hb1.mono (by simp))⟩
    rw [show max r 0 = r by omega]
    rfl
end Go.Proofs.Ytdlgipoaimgbpaa
