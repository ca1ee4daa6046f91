import Derived.Test.YtdlgipoaimgbpaaKfunRefO
import Derived.Test.YtdlgipoaimgbpaaKTakes
import Derived.Test.YtdlgipoaimgbpaaHKfuncOwnx1
import Derived.Test.YtdlgipoaimgbpaaOpen
/-! What kfunc tells at a number that is one of its functions', and at another. -/
namespace Go.Proofs.Ytdlgipoaimgbpaa
open Go.RowKit Go.Shelf
set_option maxHeartbeats 4000000
set_option maxRecDepth 100000
set_option linter.unusedSimpArgs false
set_option linter.unusedVariables false

theorem below_on {w W W' : World} (h : Below w.heap.size w W) (hb : Below W.heap.size W W') : Below w.heap.size w W' := h.trans (hb.mono h.size)

/-- A law that holds, and leaves all that was there. -/
def KPost (w : World) (e : Ending) (w' : World) : Prop := e = .returned (.bool true) ∧ Below w.heap.size w w'

theorem Arg.more {B : Nat} {a : Int} {l : List Int} {v : Value} {W : World} (h : Arg B (a :: l) v W) :
    ∃ b, B ≤ b ∧ v = .slice (some ⟨b, 0, none⟩) (a :: l).length (a :: l).length ∧ Has W b 5 ((a :: l).map (Value.int .u8)).toArray := by
  rcases h with ⟨h, _⟩ | ⟨b, h1, h2, h3⟩
  · cases h
  · exact ⟨b, h1, h2, h3⟩

theorem Arg.less {B : Nat} {v : Value} {W : World} (h : Arg B [] v W) : v = .slice none 0 0 ∨ ∃ b, B ≤ b ∧ v = .slice (some ⟨b, 0, none⟩) 0 0 := by
  rcases h with ⟨_, h⟩ | ⟨b, h1, h2, h3⟩
  · exact .inl h
  · exact .inr ⟨b, h1, h2⟩

theorem Arg.less1 {B : Nat} {v : Value} {W : World} (h : Arg B [] v W) : ∃ A, v = .slice A 0 0 := by
  rcases Arg.less h with h | ⟨b, _, h⟩
  · exact ⟨_, h⟩
  · exact ⟨_, h⟩

theorem kf_in (w : World) (id : Int) (K : KF) (hK : kfK id = K) (h : 1 ≤ id ∧ id ≤ 17) :
    Calls Try.prog 16 #[.int .i32 id] w fun e w' => ∃ v0, e = .returned (.tuple #[.agg #[v0, .int .u8 K.gives, .bool K.lk, .bool K.un], .bool true]) ∧ Arg w.heap.size K.args v0 w' ∧ Below w.heap.size w w' := by
  subst hK
  have e : decide (1 ≤ id ∧ id ≤ 17) = true := decide_eq_true h
  exact (kf_of w id).mono fun e' w' ⟨v, he, ha, hb⟩ => ⟨v, by rw [he, e], ha, hb⟩

theorem kf_out (w : World) (id : Int) (h : ¬ (1 ≤ id ∧ id ≤ 17)) :
    Calls Try.prog 16 #[.int .i32 id] w fun e w' => ∃ v0, e = .returned (.tuple #[.agg #[v0, .int .u8 0, .bool false, .bool false], .bool false]) ∧ Arg w.heap.size [] v0 w' ∧ Below w.heap.size w w' := by
  have e : decide (1 ≤ id ∧ id ≤ 17) = false := decide_eq_false h
  have hK : kfK id = KF.none := by unfold kfK; rw [if_neg h]
  have hc := kf_of w id
  rw [hK, e] at hc
  exact hc

theorem kf_name_in (w : World) (id : Int) (nm : ByteArray) (hK : (kfK id).name = nm) :
    Calls Try.prog 23 #[.int .i32 id] w fun e w' => e = .returned (.string nm) ∧ Below w.heap.size w w' := by
  subst hK
  exact kf_name w id

theorem kf_named_in (w : World) (nm : ByteArray) (id : Int) (h : kNamed nm = id) (h0 : id ≠ 0) :
    Calls Try.prog 18 #[.string nm] w fun e w' => e = .returned (.tuple #[.int .i32 id, .bool true]) ∧ Below w.heap.size w w' := by
  have hc := kf_named w nm
  rw [h, decide_eq_true h0] at hc
  exact hc

theorem names_apart {id other : Int} (h : 1 ≤ id ∧ id ≤ 17) (ho : 1 ≤ other ∧ other ≤ 17) (hn : other ≠ id) : ((kfK id).name.toList == (kfK other).name.toList) = false := by
  obtain ⟨i, hi, rfl⟩ : ∃ i : Nat, i < 17 ∧ id = (i : Int) + 1 := ⟨(id - 1).toNat, by omega, by omega⟩
  obtain ⟨j, hj, rfl⟩ : ∃ j : Nat, j < 17 ∧ other = (j : Int) + 1 := ⟨(other - 1).toNat, by omega, by omega⟩
  have hij : j ≠ i := by omega
  have e : ∀ k : Nat, k < 17 → kfK ((k : Int) + 1) = kfOf k := fun k hk => by
    unfold kfK
    rw [if_pos (by omega)]
    congr 1
    omega
  rw [e i hi, e j hj]
  have hall : ∀ i, i < 17 → ∀ j, j < 17 → j ≠ i → ((kfOf i).name.toList == (kfOf j).name.toList) = false := by decide +kernel
  exact hall i hi j hj hij

theorem slice_has {w : World} {b : Nat} {t : TypeId} {l : List Int} (h : Has w b t (l.map (Value.int .u8)).toArray) : SliceOf w (some ⟨b, 0, none⟩) 1 (l.map fun x => [Value.int .u8 x]) := by
  refine .inr ⟨b, 0, rfl, h.lt, fun i cs hi j v hj => ?_⟩
  rw [List.getElem?_map] at hi
  obtain ⟨y, hy, rfl⟩ := Option.map_eq_some_iff.1 hi
  cases j with
  | succ j => simp at hj
  | zero =>
    simp at hj
    subst hj
    have := h.cell i
    rw [show 0 + (i * 1 + 0) = i by omega, this]
    simp [hy]

theorem kf_takes_in (w : World) (A : Option Addr) (n c : Nat) (l : List Int) (g : Int) (lk un : Bool) (i : Int) (r : Bool) (hl : l.length = n) (hS : SliceOf w A 1 (l.map fun x => [Value.int .u8 x])) (hn : (n : Int) ≤ 9223372036854775807) (hi : max (kIdx l) 0 = i) (hr : decide (kIdx l ≥ 0) = r) :
    Calls Try.prog 20 #[.agg #[.slice A n c, .int .u8 g, .bool lk, .bool un]] w fun e w' => e = .returned (.tuple #[.int .i64 i, .bool r]) ∧ Below w.heap.size w w' := by
  subst hi hr
  exact kf_takes w A n c l g lk un hl hS hn

theorem kf_alive (w : World) : Calls Try.prog 15 #[] w fun e w' => e = .returned (.bool true) ∧ Below w.heap.size w w' :=
  HKfuncOwn.wardenlaw25_alive.calls true w (by decide +kernel)

end Go.Proofs.Ytdlgipoaimgbpaa
