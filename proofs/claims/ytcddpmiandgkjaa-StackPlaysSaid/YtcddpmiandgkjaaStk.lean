import Derived.Test.YtcddpmiandgkjaaVal8
import Derived.Deep.MidRow
import Derived.Lib.BufferWrite
import Derived.Shelf.SlMaps.Clone
/-! Package stack: what a stack holds; the small calls. -/
namespace Go.Proofs.Ytcddpmiandgkjaa
open Go.RowKit Go.Maps Go.Lib
set_option maxHeartbeats 1000000
set_option maxRecDepth 100000
set_option linter.unusedSimpArgs false
set_option linter.unusedVariables false

def intKey (a : Int) : Value := .int .i64 a
def intOk (a : Int) : Prop := (Lit.int .i64 a).wf = true
theorem int_mkey : MKey Try.prog 3 intKey intOk :=
  MKey.of_keyed (int_keyed Try.underlying3) (fun {a b} h => by simpa [intKey] using h) (fun a ha => ⟨_, keyOf_int_mk Try.underlying3 ha⟩)

theorem wrap_i64 {x : Int} (h0 : -9223372036854775808 ≤ x) (h1 : x < 9223372036854775808) : IntKind.i64.wrap x = x := by
  rw [IntKind.wrap_i64]
  omega

/-- A stack: its bytes, which are set, what its slots hold. -/
structure Stk where
  b : List Int
  s : List Bool
  l : List AV

def Stk.new : Stk := ⟨List.replicate 128 0, List.replicate 128 false, List.replicate 16 .nil⟩

structure Stk.ok (σ : Stk) : Prop where
  b : σ.b.length = 128
  s : σ.s.length = 128
  l : σ.l.length = 16
  range : ∀ x ∈ σ.b, 0 ≤ x ∧ x < 256
  is : ∀ v ∈ σ.l, v = .nil ∨ v.is = true

theorem Stk.new_ok : Stk.new.ok := ⟨rfl, rfl, rfl, by simp [Stk.new], by simp [Stk.new]⟩

def Stk.cells (σ : Stk) (mb : Nat) : Array Value := (σ.b.map (Value.int .u8) ++ σ.s.map Value.bool ++ [Value.map (some mb)]).toArray
def V22.cells (v : V22) : List Value := [.int .u8 v.sort, .int .u64 v.n, .int .i64 v.a, .int .i64 v.b, .int .i64 v.off, .int .u64 v.gen]
def Stk.rcells (σ : Stk) : Array Value := (σ.b.map (Value.int .u8) ++ σ.s.map Value.bool ++ (σ.l.map (fun v => v.plain.cells)).flatten).toArray

/-- What the map of slots holds of a value. -/
def slotV : AV → Option Value
  | .nil => none
  | v => some v.enc

/-- The program's stack at block p, its map at mb. -/
structure StkIs (w : World) (p mb : Nat) (σ : Stk) : Prop where
  has : Has w p 84 (σ.cells mb)
  map : ∃ m, MapIs w mb intKey intOk m ∧ ∀ k : Nat, k < 16 → mget m (k : Int) = slotV (σ.l.getD k .nil)
  ok : σ.ok

/-- The document's stack at block x. -/
structure XtkIs (w : World) (x : Nat) (σ : Stk) : Prop where
  has : Has w x 46 σ.rcells
  ok : σ.ok

section
variable {w w' : World} {p mb x : Nat} {σ : Stk} {S : Nat → Prop}
theorem StkIs.ltp (h : StkIs w p mb σ) : p < w.heap.size := h.has.lt
theorem StkIs.ltm (h : StkIs w p mb σ) : mb < w.heap.size := by obtain ⟨m, hm, _⟩ := h.map; exact hm.lt
theorem StkIs.ne (h : StkIs w p mb σ) : p ≠ mb := by
  rintro rfl
  obtain ⟨m, ⟨es, clock, hm, _⟩, _⟩ := h.map
  have := h.has
  unfold Has at this
  rw [this] at hm
  cases hm
theorem StkIs.kept (h : StkIs w p mb σ) (h1 : w'.heap[p]? = w.heap[p]?) (h2 : w'.heap[mb]? = w.heap[mb]?) : StkIs w' p mb σ := by
  obtain ⟨a, ⟨m, b, c⟩, d⟩ := h
  exact ⟨h1.trans a, ⟨m, b.kept h2, c⟩, d⟩
theorem StkIs.below (h : StkIs w p mb σ) (hb : Below w.heap.size w w') : StkIs w' p mb σ := h.kept (hb.block _ h.ltp) (hb.block _ h.ltm)
theorem StkIs.turned (h : StkIs w p mb σ) (ht : Turned S w w') (h1 : ¬ S p) (h2 : ¬ S mb) : StkIs w' p mb σ := h.kept (ht.block _ h.ltp h1) (ht.block _ h.ltm h2)
theorem StkIs.drew (h : StkIs w p mb σ) : StkIs w.drew p mb σ := h.kept rfl rfl
theorem StkIs.drewN (h : StkIs w p mb σ) (n : Nat) : StkIs (w.drewN n) p mb σ := h.kept rfl rfl
theorem XtkIs.lt (h : XtkIs w x σ) : x < w.heap.size := h.has.lt
theorem XtkIs.below (h : XtkIs w x σ) (hb : Below w.heap.size w w') : XtkIs w' x σ := ⟨h.has.below hb h.lt, h.ok⟩
theorem XtkIs.turned (h : XtkIs w x σ) (ht : Turned S w w') (h1 : ¬ S x) : XtkIs w' x σ := ⟨h.has.turned ht h1, h.ok⟩
theorem XtkIs.drew (h : XtkIs w x σ) : XtkIs w.drew x σ := ⟨h.has, h.ok⟩

theorem Stk.cells_map (hb : σ.b.length = 128) (hs : σ.s.length = 128) : (σ.cells mb)[256]? = some (.map (some mb)) := by
  unfold Stk.cells
  simp [List.getElem?_append, hb, hs]
theorem Stk.cells_s (hb : σ.b.length = 128) (hs : σ.s.length = 128) {j : Nat} (hj : j < 128) : (σ.cells mb)[128 + j]? = some (.bool (σ.s.getD j false)) := by
  unfold Stk.cells
  have h1 : j < σ.s.length := by omega
  rw [List.getElem?_toArray, List.append_assoc, List.getElem?_append_right (by simp [hb]), List.getElem?_append_left (by simp [hb, hs]; omega)]
  simp [hb, List.getD, h1]
theorem Stk.cells_b (hb : σ.b.length = 128) {j : Nat} (hj : j < 128) : (σ.cells mb)[j]? = some (.int .u8 (σ.b.getD j 0)) := by
  unfold Stk.cells
  have h1 : j < σ.b.length := by omega
  rw [List.getElem?_toArray, List.append_assoc, List.getElem?_append_left (by simp [hb]; omega)]
  simp [List.getD, h1]
theorem Stk.set_s (hb : σ.b.length = 128) (hs : σ.s.length = 128) {j : Nat} (hj : j < 128) (v : Bool) : (σ.cells mb).setIfInBounds (128 + j) (.bool v) = ({ σ with s := σ.s.set j v } : Stk).cells mb := by
  unfold Stk.cells
  apply Array.toList_inj.1
  rw [Array.toList_setIfInBounds]
  simp only []
  rw [List.append_assoc, List.set_append_right _ _ (by simp [hb]), List.set_append_left _ _ (by simp [hb, hs]; omega)]
  simp [hb, List.map_set]

theorem StkIs.cmap (h : StkIs w p mb σ) : w.cell? ⟨p, 256, none⟩ = some (.map (some mb)) := by rw [h.has.cell]; exact Stk.cells_map h.ok.b h.ok.s
theorem StkIs.cset (h : StkIs w p mb σ) {j : Nat} (hj : j < 128) : w.cell? ⟨p, 128 + j, none⟩ = some (.bool (σ.s.getD j false)) := by rw [h.has.cell]; exact Stk.cells_s h.ok.b h.ok.s hj
theorem StkIs.cbyte (h : StkIs w p mb σ) {j : Nat} (hj : j < 128) : w.cell? ⟨p, j, none⟩ = some (.int .u8 (σ.b.getD j 0)) := by rw [h.has.cell]; exact Stk.cells_b h.ok.b hj
end

/-! The small calls. -/
theorem stk_none (w : World) (p mb : Nat) (h : w.cell? ⟨p, 256, none⟩ = some (.map (some mb))) :
    Calls Try.prog 39 #[.pointer (some ⟨p, 0, none⟩)] w fun e w' => e = .returned (.bool false) ∧ w = w' := by
  have hq := fun w => run_eql_map_nil (P := Try.prog) w 82 3 20 (some mb) Try.underlying82
  go_enter Try.func39, Try.ntmps39
  go_wp2
  go_ret
  exact ⟨rfl, rfl⟩

theorem stk_none_nil (w : World) : Calls Try.prog 39 #[.pointer none] w fun e w' => e = .returned (.bool true) ∧ w = w' := by
  go_enter Try.func39, Try.ntmps39
  go_wp2
  go_ret
  exact ⟨rfl, rfl⟩

def stkIn (a n : Int) : Bool := decide ((n = 1 ∨ n = 2 ∨ n = 4 ∨ n = 8) ∧ -128 ≤ a ∧ a ≤ -n)

theorem stk_within (w : World) (a n : Int) : Calls Try.prog 40 #[.int .i64 a, .int .i64 n] w fun e w' => e = .returned (.bool (stkIn a n)) ∧ Below w.heap.size w w' := by
  have C := word_of 0 n (by decide) (by decide) w
  unfold stkIn
  by_cases hn : n = 1 ∨ n = 2 ∨ n = 4 ∨ n = 8
  · have hne : (wordOf 0 n) ≠ ⟨#[]⟩ := by
      intro e
      have := wordOf_size_eq 0 n hn
      rw [e] at this
      have h0 : ((⟨#[]⟩ : ByteArray).size : Int) = 0 := rfl
      omega
    have hl : ¬ (wordOf 0 n).toList = [] := by
      intro e
      have h0 := wordOf_size_eq 0 n hn
      have h1 : (wordOf 0 n).toList.length = (wordOf 0 n).size := by rw [ByteArray.toList_eq]; rfl
      rw [e] at h1
      simp at h1
      omega
    have D1 : (wordOf 0 n).toList.isEmpty = false := by
      cases h : (wordOf 0 n).toList with
      | nil => exact absurd h hl
      | cons => rfl
    have hw : IntKind.i64.wrap (-n) = -n := wrap_i64 (by omega) (by omega)
    generalize wordOf 0 n = T at *
    have C := hide C
    clear hne
    by_cases h1 : -128 ≤ a
    · have E1 : decide (-128 ≤ a) = true := decide_eq_true h1
      by_cases h2 : a ≤ -n
      · have E2 : decide (a ≤ -n) = true := decide_eq_true h2
        rw [decide_eq_true (show (n = 1 ∨ n = 2 ∨ n = 4 ∨ n = 8) ∧ -128 ≤ a ∧ a ≤ -n from ⟨hn, h1, h2⟩)]
        clear hn
        go_enter Try.func40, Try.ntmps40
        go_wp2_with fail
        refine C.out.mono ?_
        rintro e w1 ⟨rfl, hb⟩
        go_wp2_with fail
        go_ret
        exact ⟨rfl, hb⟩
      · have E2 : decide (a ≤ -n) = false := decide_eq_false h2
        rw [decide_eq_false (show ¬ ((n = 1 ∨ n = 2 ∨ n = 4 ∨ n = 8) ∧ -128 ≤ a ∧ a ≤ -n) from fun h => h2 h.2.2)]
        clear hn
        go_enter Try.func40, Try.ntmps40
        go_wp2_with fail
        refine C.out.mono ?_
        rintro e w1 ⟨rfl, hb⟩
        go_wp2_with fail
        go_ret
        exact ⟨rfl, hb⟩
    · have E1 : decide (-128 ≤ a) = false := decide_eq_false h1
      rw [decide_eq_false (show ¬ ((n = 1 ∨ n = 2 ∨ n = 4 ∨ n = 8) ∧ -128 ≤ a ∧ a ≤ -n) from fun h => h1 h.2.1)]
      clear hn
      go_enter Try.func40, Try.ntmps40
      go_wp2_with fail
      refine C.out.mono ?_
      rintro e w1 ⟨rfl, hb⟩
      go_wp2_with fail
      go_ret
      exact ⟨rfl, hb⟩
  · rw [decide_eq_false (show ¬ ((n = 1 ∨ n = 2 ∨ n = 4 ∨ n = 8) ∧ -128 ≤ a ∧ a ≤ -n) from fun h => hn h.1)]
    rw [show wordOf 0 n = ⟨#[]⟩ from if_neg hn] at C
    have C := hide C
    clear hn
    go_enter Try.func40, Try.ntmps40
    go_wp2_with fail
    refine C.out.mono ?_
    rintro e w1 ⟨rfl, hb⟩
    go_wp2_with fail
    go_ret
    exact ⟨rfl, hb⟩

theorem xtk_within (w : World) (a n : Int) : Calls Try.prog 45 #[.int .i64 a, .int .i64 n] w fun e w' => e = .returned (.bool (stkIn a n)) ∧ w = w' := by
  unfold stkIn
  by_cases hn : n = 1 ∨ n = 2 ∨ n = 4 ∨ n = 8
  · have C := hide (ref_may_yes n hn w)
    have hw : IntKind.i64.wrap (-n) = -n := wrap_i64 (by omega) (by omega)
    by_cases h1 : -128 ≤ a
    · have E1 : decide (-128 ≤ a) = true := decide_eq_true h1
      by_cases h2 : a ≤ -n
      · have E2 : decide (a ≤ -n) = true := decide_eq_true h2
        rw [decide_eq_true (show (n = 1 ∨ n = 2 ∨ n = 4 ∨ n = 8) ∧ -128 ≤ a ∧ a ≤ -n from ⟨hn, h1, h2⟩)]
        clear hn
        go_enter Try.func45, Try.ntmps45
        go_wp2_with fail
        refine C.out.mono ?_
        rintro e w1 ⟨rfl, rfl⟩
        go_wp2_with fail
        go_ret
        exact ⟨rfl, rfl⟩
      · have E2 : decide (a ≤ -n) = false := decide_eq_false h2
        rw [decide_eq_false (show ¬ ((n = 1 ∨ n = 2 ∨ n = 4 ∨ n = 8) ∧ -128 ≤ a ∧ a ≤ -n) from fun h => h2 h.2.2)]
        clear hn
        go_enter Try.func45, Try.ntmps45
        go_wp2_with fail
        refine C.out.mono ?_
        rintro e w1 ⟨rfl, rfl⟩
        go_wp2_with fail
        go_ret
        exact ⟨rfl, rfl⟩
    · have E1 : decide (-128 ≤ a) = false := decide_eq_false h1
      rw [decide_eq_false (show ¬ ((n = 1 ∨ n = 2 ∨ n = 4 ∨ n = 8) ∧ -128 ≤ a ∧ a ≤ -n) from fun h => h1 h.2.1)]
      clear hn
      go_enter Try.func45, Try.ntmps45
      go_wp2_with fail
      refine C.out.mono ?_
      rintro e w1 ⟨rfl, rfl⟩
      go_wp2_with fail
      go_ret
      exact ⟨rfl, rfl⟩
  · have C := hide (ref_may_no n hn w)
    rw [decide_eq_false (show ¬ ((n = 1 ∨ n = 2 ∨ n = 4 ∨ n = 8) ∧ -128 ≤ a ∧ a ≤ -n) from fun h => hn h.1)]
    clear hn
    go_enter Try.func45, Try.ntmps45
    go_wp2_with fail
    refine C.out.mono ?_
    rintro e w1 ⟨rfl, rfl⟩
    go_wp2_with fail
    go_ret
    exact ⟨rfl, rfl⟩

end Go.Proofs.Ytcddpmiandgkjaa
