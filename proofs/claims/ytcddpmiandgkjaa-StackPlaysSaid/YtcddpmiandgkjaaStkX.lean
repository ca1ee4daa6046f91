import Derived.Test.YtcddpmiandgkjaaStkKeepsP
import Derived.Test.YtcddpmiandgkjaaGrowW
/-! Package stack: the document's answer (wardenref23): Set, Spilled, spilled, read. -/
namespace Go.Proofs.Ytcddpmiandgkjaa
open Go.RowKit Go.Maps Go.Lib Go.Deep
set_option maxHeartbeats 2000000
set_option maxRecDepth 100000
set_option linter.unusedSimpArgs false
set_option linter.unusedVariables false

theorem flat_at (L : List (List Value)) : ∀ (k : Nat) (cs : List Value), L[k]? = some cs → (∀ c ∈ L, c.length = 6) → ∀ j, j < 6 → L.flatten[6 * k + j]? = cs[j]? := by
  induction L with
  | nil => intro k cs h; simp at h
  | cons c L ih =>
    intro k cs h hl j hj
    have hc := hl c (by simp)
    cases k with
    | zero =>
      simp at h
      subst h
      rw [List.flatten_cons, List.getElem?_append_left (by omega)]
      simp
    | succ k =>
      simp at h
      rw [List.flatten_cons, List.getElem?_append_right (by omega), hc, show 6 * (k + 1) + j - 6 = 6 * k + j by omega]
      exact ih k cs h (fun d hd => hl d (by simp [hd])) j hj

theorem flat_length (L : List (List Value)) (h : ∀ c ∈ L, c.length = 6) : L.flatten.length = 6 * L.length := by
  induction L with
  | nil => rfl
  | cons c L ih =>
    rw [List.flatten_cons, List.length_append, h c (by simp), ih (fun d hd => h d (by simp [hd])), List.length_cons]
    omega

/-- A value's cells set anew in the flat row. -/
theorem flat_set (L : List (List Value)) : ∀ (k : Nat) (cs : List Value), k < L.length → (∀ c ∈ L, c.length = 6) → cs.length = 6 → (L.set k cs).flatten = L.flatten.take (6 * k) ++ cs ++ L.flatten.drop (6 * k + 6) := by
  induction L with
  | nil => intro k cs h; simp at h
  | cons c L ih =>
    intro k cs h hl hcs
    have hc := hl c (by simp)
    cases k with
    | zero =>
      rw [List.set_cons_zero, List.flatten_cons, List.flatten_cons, Nat.mul_zero, List.take_zero, List.nil_append, Nat.zero_add, List.drop_append_of_le_length (by omega), List.drop_of_length_le (by omega), List.nil_append]
    | succ k =>
      have h2 : k < L.length := by simpa using h
      rw [List.set_cons_succ, List.flatten_cons, List.flatten_cons, ih k cs h2 (fun d hd => hl d (by simp [hd])) hcs]
      rw [List.take_append, List.drop_append, List.take_of_length_le (show c.length ≤ 6 * (k + 1) by omega), List.drop_of_length_le (show c.length ≤ 6 * (k + 1) + 6 by omega), hc]
      rw [show 6 * (k + 1) - 6 = 6 * k by omega, show 6 * (k + 1) + 6 - 6 = 6 * k + 6 by omega]
      simp [List.append_assoc]

theorem cells6 (l : List AV) : ∀ c ∈ l.map (fun v => v.plain.cells), c.length = 6 := by
  intro c hc
  obtain ⟨v, _, rfl⟩ := List.mem_map.1 hc
  rfl

section
variable {w w' : World} {x : Nat} {σ : Stk} {S : Nat → Prop}
theorem Stk.rcells_b (hb : σ.b.length = 128) {j : Nat} (hj : j < 128) : σ.rcells[j]? = some (.int .u8 (σ.b.getD j 0)) := by
  unfold Stk.rcells
  have h1 : j < σ.b.length := by omega
  rw [List.getElem?_toArray, List.append_assoc, List.getElem?_append_left (by simp [hb]; omega)]
  simp [List.getD, h1]
theorem Stk.rcells_s (hb : σ.b.length = 128) (hs : σ.s.length = 128) {j : Nat} (hj : j < 128) : σ.rcells[128 + j]? = some (.bool (σ.s.getD j false)) := by
  unfold Stk.rcells
  have h1 : j < σ.s.length := by omega
  rw [List.getElem?_toArray, List.append_assoc, List.getElem?_append_right (by simp [hb]), List.getElem?_append_left (by simp [hb, hs]; omega)]
  simp [hb, List.getD, h1]
theorem Stk.rcells_l (h : σ.ok) {k : Nat} (hk : k < 16) {j : Nat} (hj : j < 6) : σ.rcells[256 + 6 * k + j]? = (σ.slot k).plain.cells[j]? := by
  unfold Stk.rcells
  have h1 : k < σ.l.length := by rw [h.l]; exact hk
  rw [List.getElem?_toArray, List.getElem?_append_right (by simp [h.b, h.s]; omega)]
  have e : 256 + 6 * k + j - (List.map (Value.int .u8) σ.b ++ List.map Value.bool σ.s).length = 6 * k + j := by simp [h.b, h.s]; omega
  rw [e]
  refine flat_at _ k _ ?_ (cells6 σ.l) j hj
  rw [List.getElem?_map, List.getElem?_eq_getElem h1]
  unfold Stk.slot
  rw [List.getD_eq_getElem?_getD, List.getElem?_eq_getElem h1]
  rfl

theorem XtkIs.cbyte (h : XtkIs w x σ) {j : Nat} (hj : j < 128) : w.cell? ⟨x, j, none⟩ = some (.int .u8 (σ.b.getD j 0)) := by rw [h.has.cell]; exact Stk.rcells_b h.ok.b hj
theorem XtkIs.cset (h : XtkIs w x σ) {j : Nat} (hj : j < 128) : w.cell? ⟨x, 128 + j, none⟩ = some (.bool (σ.s.getD j false)) := by rw [h.has.cell]; exact Stk.rcells_s h.ok.b h.ok.s hj
theorem XtkIs.cslot (h : XtkIs w x σ) {k : Nat} (hk : k < 16) : w.rangeAt x (256 + 6 * k) (σ.slot k).plain.cells := fun j v hv => by
  have hj : j < 6 := (List.getElem?_eq_some_iff.1 hv).1
  rw [h.has.cell, Stk.rcells_l h.ok hk hj]
  exact hv
end

theorem xtk_set (w : World) (x : Nat) (σ : Stk) (h : XtkIs w x σ) (a : Int) :
    Calls Try.prog 49 #[.pointer (some ⟨x, 0, none⟩), .int .i64 a] w fun e w' => e = .returned (.bool (σ.setAt a)) ∧ w = w' := by
  by_cases h1 : -128 ≤ a
  · have E1 : decide (-128 ≤ a) = true := decide_eq_true h1
    by_cases h2 : a < 0
    · have E2 : decide (a < 0) = true := decide_eq_true h2
      obtain ⟨f, hf⟩ : ∃ f : Nat, a + 128 = f := ⟨(a + 128).toNat, by omega⟩
      have hc := h.cset (j := f) (by omega)
      have hr : σ.setAt a = σ.s.getD f false := by
        unfold Stk.setAt
        rw [decide_eq_true (show -128 ≤ a ∧ a < 0 from ⟨h1, h2⟩), hf]
        rfl
      rw [hr]
      generalize σ.s.getD f false = v at *
      have hw : IntKind.i64.wrap (a + 128) = (f : Int) := by rw [wrap_i64 (by omega) (by omega)]; exact hf
      have hfi : f < 128 := by omega
      have HF := hide hf
      clear hr hf h
      go_enter Try.func49, Try.ntmps49
      go_wp2_with fail
      go_ret
      exact ⟨rfl, rfl⟩
    · have E2 : decide (a < 0) = false := decide_eq_false h2
      have hr : σ.setAt a = false := by
        unfold Stk.setAt
        rw [decide_eq_false (show ¬ (-128 ≤ a ∧ a < 0) from fun h => h2 h.2)]
        rfl
      rw [hr]
      clear hr h
      go_enter Try.func49, Try.ntmps49
      go_wp2_with fail
      go_ret
      exact ⟨rfl, rfl⟩
  · have E1 : decide (-128 ≤ a) = false := decide_eq_false h1
    have hr : σ.setAt a = false := by
      unfold Stk.setAt
      rw [decide_eq_false (show ¬ (-128 ≤ a ∧ a < 0) from fun h => h1 h.1)]
      rfl
    rw [hr]
    clear hr h
    go_enter Try.func49, Try.ntmps49
    go_wp2_with fail
    go_ret
    exact ⟨rfl, rfl⟩

theorem xtk_spilled (w : World) (x : Nat) (σ : Stk) (h : XtkIs w x σ) (k : Nat) (hk : k < 16) :
    Calls Try.prog 46 #[.pointer (some ⟨x, 0, none⟩), .int .i64 (k : Int)] w fun e w' => e = .returned (.bool (!(σ.slot k).no)) ∧ w = w' := by
  have hr := h.cslot hk
  have c0 : w.cell? ⟨x, 256 + k * 6, none⟩ = some (.int .u8 (σ.slot k).plain.sort) := by rw [Nat.mul_comm]; exact hr 0 _ rfl
  have hno : ((σ.slot k).plain.sort != 0) = !(σ.slot k).no := by
    have his : σ.slot k = .nil ∨ (σ.slot k).is = true := by
      unfold Stk.slot
      rw [List.getD_eq_getElem?_getD, List.getElem?_eq_getElem (by rw [h.ok.l]; exact hk)]
      exact h.ok.is _ (List.getElem_mem _)
    rcases his with e | e
    · rw [e]; rfl
    · cases hv : σ.slot k <;> rw [hv] at e <;> first | rfl | cases e
  rw [← hno]
  have hki : (k : Int) < 16 := by omega
  generalize (σ.slot k).plain.sort = s at *
  clear h hr hno
  go_enter Try.func46, Try.ntmps46
  go_wp2_with fail
  go_ret
  exact ⟨rfl, rfl⟩

end Go.Proofs.Ytcddpmiandgkjaa
