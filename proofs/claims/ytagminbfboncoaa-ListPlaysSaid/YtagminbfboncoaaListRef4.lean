import Derived.Test.YtagminbfboncoaaListRef3
/-! Package list: the document's answer (wardenref15): Push; does. -/
namespace Go.Proofs.Ytagminbfboncoaa
open Go.RowKit Go.Maps
set_option maxHeartbeats 4000000
set_option maxRecDepth 100000
set_option linter.unusedSimpArgs false
set_option linter.unusedVariables false

theorem ref_put (N : Nat) (w : World) (x : Nat) (hs : List (Int × Int)) (h : RefIs N w x hs) (hsm : hs.length ≤ 100000) (i : Nat) (hile : i ≤ hs.length) (p : Int × Int) :
    Calls Try.prog 27 #[.pointer (some ⟨x, 0, none⟩), .int .i64 i, .agg #[.int .i64 p.1, .int .u64 p.2]] w fun e w' => (∃ r, e = .returned r) ∧ RefIs N w' x (hs.take i ++ p :: hs.drop i) ∧ Turned (fun k => k = x) w w' := by
  obtain ⟨A, c, hx, hrow⟩ := h.form
  cases A with
  | some a =>
    obtain ⟨_, hh⟩ := id hrow
    rcases hh with ⟨hh, _⟩ | ⟨g2, cap2, cur, h0, hg, hb, _⟩
    · cases hh
    · injection h0 with h1
      injection h1 with h2
      subst h2
      exact ref_put_some N w x hs h hsm i hile p.1 p.2 g2 c hx hrow
  | none =>
    obtain ⟨_, hh⟩ := id hrow
    rcases hh with ⟨hh, hn⟩ | ⟨g2, cap2, cur, h0, _⟩
    · have hnil : hs = [] := List.length_eq_zero_iff.1 hn
      subst hnil
      injection hh with _ _ hc
      subst hc
      obtain rfl : i = 0 := by simpa using hile
      exact ref_put_nil N w x h.1 p.1 p.2 hx
    · cases h0

theorem atOf_mem {hs : List (Int × Int)} {p : Int × Int} : 0 ≤ atOf hs p ↔ p ∈ hs := by
  unfold atOf
  cases h : hAt hs p with
  | none =>
    have := hAt_none h
    simp only []
    constructor
    · intro h; omega
    · intro h; exact absurd h this
  | some i =>
    simp only []
    exact ⟨fun _ => List.mem_of_getElem? (hAt_some h), fun _ => by omega⟩

theorem ref_push (N : Nat) (w : World) (x : Nat) (hs : List (Int × Int)) (h : RefIs N w x hs) (hsm : hs.length ≤ 100000) (p : Int × Int) (front : Bool) :
    Calls Try.prog 23 #[.pointer (some ⟨x, 0, none⟩), .agg #[.int .i64 p.1, .int .u64 p.2], .bool front] w fun e w' => e = .returned (.int .i64 (if p ∈ hs then 7 else 0)) ∧ RefIs N w' x (pushed hs p front) ∧ Turned (fun k => k = x) w w' := by
  obtain ⟨s, g⟩ := p
  have B1 : Below w.heap.size w (w.alloc (.cells #[.int .i64 s, .int .u64 g] 29)) := (Below.refl _ w).alloc (Nat.le_refl _) _
  have R1 := h.below B1
  have G1 := hide (ref_at N _ x hs R1 hsm (s, g))
  have HW := hide (Has.new w 29 #[.int .i64 s, .int .u64 g])
  have HR1 := hide R1
  have HB1 := hide B1
  have hxl : x < w.heap.size := by obtain ⟨_, v, h2, _⟩ := h; exact h2.lt
  have HSM := hide hsm
  clear R1 B1 h hsm
  by_cases hp : (s, g) ∈ hs
  · have hd : decide (0 ≤ atOf hs (s, g)) = true := decide_eq_true (atOf_mem.2 hp)
    generalize hq : atOf hs (s, g) = q at *
    have HP := hide hp
    have HQ := hide hq
    clear hp hq
    go_enter Try.func23, Try.ntmps23
    go_wp2_with fail
    refine G1.out.mono ?_
    rintro e w2 ⟨rfl, t2⟩
    have HT := hide (below_on HB1.out t2)
    have HR2 := hide (HR1.out.below t2)
    clear t2
    go_wp2_with fail
    go_returns
    refine ⟨rfl, ?_, Turned.of_below HT.out⟩
    unfold pushed
    rw [if_pos HP.out]
    exact HR2.out
  · have hd : decide (0 ≤ atOf hs (s, g)) = false := decide_eq_false (fun e => hp (atOf_mem.1 e))
    generalize hq : atOf hs (s, g) = q at *
    have HP := hide hp
    have HQ := hide hq
    clear hp hq
    cases front
    · go_enter Try.func23, Try.ntmps23
      go_wp2_with fail
      refine G1.out.mono ?_
      rintro e w2 ⟨rfl, t2⟩
      have HT := hide (below_on HB1.out t2)
      have HR2 := hide (HR1.out.below t2)
      have hW2 := HW.out.below t2 HW.out.lt
      have e0 : w2.cell? ⟨w.heap.size, 0, none⟩ = some (.int .i64 s) := hW2.cell 0
      have e1 : w2.cell? ⟨w.heap.size, 1, none⟩ = some (.int .u64 g) := hW2.cell 1
      obtain ⟨A, c, hx, _⟩ := HR2.out.form
      have c0 : w2.cell? ⟨x, 0, none⟩ = some (.slice A hs.length c) := hx.cell 0
      have GP := hide (ref_put N w2 x hs HR2.out HSM.out hs.length (by simp) (s, g))
      obtain ⟨M, hM⟩ : ∃ M, M = hs.length := ⟨_, rfl⟩
      rw [← hM] at c0
      have HM := hide hM
      clear t2 hW2 hx hM
      go_wp2_with fail
      rw [HM.out]
      refine GP.out.mono ?_
      rintro e w3 ⟨⟨r, rfl⟩, HR3, t3⟩
      have HR3 := hide HR3
      have HT3 := hide t3
      clear t3
      go_wp2_with fail
      go_returns
      refine ⟨rfl, ?_, (Turned.of_below (S := fun k => k = x) HT.out).trans HT3.out⟩
      have := HR3.out
      unfold pushed
      rw [if_neg HP.out]
      simpa using this
    · go_enter Try.func23, Try.ntmps23
      go_wp2_with fail
      refine G1.out.mono ?_
      rintro e w2 ⟨rfl, t2⟩
      have HT := hide (below_on HB1.out t2)
      have HR2 := hide (HR1.out.below t2)
      have hW2 := HW.out.below t2 HW.out.lt
      have e0 : w2.cell? ⟨w.heap.size, 0, none⟩ = some (.int .i64 s) := hW2.cell 0
      have e1 : w2.cell? ⟨w.heap.size, 1, none⟩ = some (.int .u64 g) := hW2.cell 1
      obtain ⟨A, c, hx, _⟩ := HR2.out.form
      have c0 : w2.cell? ⟨x, 0, none⟩ = some (.slice A hs.length c) := hx.cell 0
      have GP := hide (ref_put N w2 x hs HR2.out HSM.out 0 (by simp) (s, g))
      obtain ⟨M, hM⟩ : ∃ M, M = hs.length := ⟨_, rfl⟩
      rw [← hM] at c0
      have HM := hide hM
      clear t2 hW2 hx hM
      go_wp2_with fail
      refine GP.out.mono ?_
      rintro e w3 ⟨⟨r, rfl⟩, HR3, t3⟩
      have HR3 := hide HR3
      have HT3 := hide t3
      clear t3
      go_wp2_with fail
      go_returns
      refine ⟨rfl, ?_, (Turned.of_below (S := fun k => k = x) HT.out).trans HT3.out⟩
      have := HR3.out
      unfold pushed
      rw [if_neg HP.out]
      simpa using this

end Go.Proofs.Ytagminbfboncoaa
