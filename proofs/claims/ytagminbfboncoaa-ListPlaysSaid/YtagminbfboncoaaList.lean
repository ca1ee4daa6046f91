import Derived.Test.YtagminbfboncoaaProg
import Derived.Test.YtagminbfboncoaaBase
import Derived.Test.YtagminbfboncoaaMaps
import Derived.Handy
/-! Package list: its state in memory, and the calls that only read. -/
namespace Go.Proofs.Ytagminbfboncoaa
open Go.RowKit Go.Maps
set_option maxHeartbeats 1000000
set_option maxRecDepth 100000

theorem keyLits_int {P : Program} {t : TypeId} {q : IntKind} (d : Nat) (hu : P.underlying t = some (.int q)) {n : Int} (h : (Lit.int q n).wf = true) : P.keyLits (d + 1) t [.int q n] = some [.int q n] := by
  simp [Program.keyLits, hu, h]

/-- A handle as a key. -/
def hKey (q : Int × Int) : Value := .agg #[.int .i64 q.1, .int .u64 q.2]
def hOk (q : Int × Int) : Prop := (Lit.int .i64 q.1).wf = true ∧ (Lit.int .u64 q.2).wf = true

theorem handle_law : WideMaps.KeyLaw Try.prog 29 := deep_law_gate (by kernel_rfl) (of_decide_eq_true (by kernel_rfl)) (of_decide_eq_true (by kernel_rfl)) (by kernel_rfl) (by kernel_rfl)

theorem handle_keyOf (q : Int × Int) (h : hOk q) : ∃ l, keyOf Try.prog 29 (hKey q) = some l := by
  have hk : Try.prog.keyType 29 = true := by kernel_rfl
  have hc : Try.prog.cellsOf 29 = 2 := by kernel_rfl
  have c3 : Try.prog.cellsOf 3 = 1 := by kernel_rfl
  have c4 : Try.prog.cellsOf 27 = 1 := by kernel_rfl
  have hrow : 29 < Try.prog.types.size := of_decide_eq_true (by kernel_rfl)
  have hf : (hKey q).formed Try.prog 29 = true := by simp [hKey, Value.formed, Try.underlying29, hc]
  obtain ⟨d, hd⟩ : ∃ d, Try.prog.types.size = d + 1 := ⟨Try.prog.types.size - 1, by omega⟩
  unfold keyOf
  rw [Try.underlying29]
  simp only [hk, hf, Bool.and_true, if_true]
  rw [hd]
  have e : (hKey q).cells.toList = [.int .i64 q.1, .int .u64 q.2] := rfl
  rw [e]
  have k1 := keyLits_int (P := Try.prog) d Try.underlying3 h.1
  have k2 := keyLits_int (P := Try.prog) d Try.underlying27 h.2
  have : Try.prog.keyLits (d + 1 + 1) 29 [.int .i64 q.1, .int .u64 q.2] = some [.int .i64 q.1, .int .u64 q.2] := by
    unfold Program.keyLits
    simp [Try.underlying29, hc, c3, c4, k1, k2]
  rw [this]
  exact ⟨_, rfl⟩

theorem handle_mkey : MKey Try.prog 29 hKey hOk :=
  MKey.of_keyed (Keyed.of_law handle_law) (fun {a b} h => by
    obtain ⟨a1, a2⟩ := a
    obtain ⟨b1, b2⟩ := b
    simpa [hKey] using h) handle_keyOf

/-- A link's address, or none. -/
def lp (k : Option Nat) : Value := .pointer (k.map fun b => ⟨b, 0, none⟩)

/-- The link ahead of place i. -/
def ahead (ks : List Nat) (i : Nat) : Option Nat := if i = 0 then none else ks[i - 1]?

/-- The links: of each handle one, each leads to those beside it. -/
def Chain (N : Nat) (w : World) (hs : List (Int × Int)) (ks : List Nat) : Prop :=
  ks.length = hs.length ∧ ks.Nodup ∧ ∀ i h k, hs[i]? = some h → ks[i]? = some k → N ≤ k ∧ Has w k 60 #[.int .i64 h.1, .int .u64 h.2, lp ks[i + 1]?, lp (ahead ks i)]

/-- The list at block b, its map at mb; all that it has lies from N on. -/
def ListIs (N : Nat) (w : World) (b mb : Nat) (hs : List (Int × Int)) : Prop :=
  ∃ (ks : List Nat) (m : List ((Int × Int) × Value)), N ≤ b ∧ N ≤ mb ∧ Has w b 58 #[.map (some mb), lp ks[0]?, lp ks[ks.length - 1]?] ∧ Chain N w hs ks ∧ hs.Nodup ∧ (∀ h ∈ hs, hOk h) ∧
    MapIs w mb hKey hOk m ∧ m.length = hs.length ∧ ∀ h, mget m h = (hs.findIdx? (fun x => decide (x = h))).bind fun i => (ks[i]?).map fun k => .pointer (some ⟨k, 0, none⟩)

/-- What a call of the list's may turn: lists, links, maps. -/
def ListMay (mb : Nat) (w : World) (k : Nat) : Prop := (∃ cs, w.heap[k]? = some (.cells cs 58 (0, 0))) ∨ (∃ cs, w.heap[k]? = some (.cells cs 60 (0, 0))) ∨ (k = mb ∧ ∃ es c, w.heap[k]? = some (.map es c))

theorem Has.notMay {mb : Nat} {w : World} {g : Nat} {t : TypeId} {cs : Array Value} (h : Has w g t cs) (h1 : t ≠ 58) (h2 : t ≠ 60) : ¬ ListMay mb w g := by
  rintro (⟨c, hc⟩ | ⟨c, hc⟩ | ⟨_, e, c, hc⟩)
  · exact h1 (h.eq (show Has w g _ c from hc)).1
  · exact h2 (h.eq (show Has w g _ c from hc)).1
  · unfold Has at h
    rw [h] at hc
    cases hc

theorem Turned.may {mb : Nat} {w w1 w2 : World} (h : Turned (ListMay mb w) w w1) (k : Turned (ListMay mb w1) w1 w2) : Turned (ListMay mb w) w w2 :=
  ⟨k.os.trans h.os, k.tape.trans h.tape, k.output.trans h.output, Nat.le_trans h.size k.size, fun i hi hn =>
    have e := h.block i hi hn
    (k.block i (Nat.lt_of_lt_of_le hi h.size) (fun hm => hn (by unfold ListMay at hm ⊢; rwa [e] at hm))).trans e⟩

/-- The place of a handle. -/
def hAt (hs : List (Int × Int)) (h : Int × Int) : Option Nat := hs.findIdx? fun x => decide (x = h)

theorem hAt_some {hs : List (Int × Int)} {h : Int × Int} {i : Nat} (e : hAt hs h = some i) : hs[i]? = some h := by
  unfold hAt at e
  rw [List.findIdx?_eq_some_iff_getElem] at e
  obtain ⟨hi, h1, _⟩ := e
  rw [List.getElem?_eq_getElem hi]
  simpa using h1

theorem hAt_none {hs : List (Int × Int)} {h : Int × Int} (e : hAt hs h = none) : h ∉ hs := by
  unfold hAt at e
  rw [List.findIdx?_eq_none_iff] at e
  intro hm
  have := e h hm
  simp at this

theorem hAt_of {hs : List (Int × Int)} (hn : hs.Nodup) {h : Int × Int} {i : Nat} (e : hs[i]? = some h) : hAt hs h = some i := by
  unfold hAt
  rw [List.findIdx?_eq_some_iff_getElem]
  have hi := (List.getElem?_eq_some_iff.1 e).1
  have he := (List.getElem?_eq_some_iff.1 e).2
  refine ⟨hi, by simpa using he, fun j hj => ?_⟩
  have hne := List.pairwise_iff_getElem.1 hn j i (by omega) hi hj
  rw [he] at hne
  simpa using hne

theorem hAt_not {hs : List (Int × Int)} {h : Int × Int} (e : h ∉ hs) : hAt hs h = none := by
  cases e2 : hAt hs h with
  | none => rfl
  | some i => exact absurd (List.mem_of_getElem? (hAt_some e2)) e

/-- What the map answers at a handle. -/
def linkOf (hs : List (Int × Int)) (ks : List Nat) (h : Int × Int) : Option Nat := (hAt hs h).bind fun i => ks[i]?

theorem list_new (w : World) : Calls Try.prog 8 #[] w fun e w' => ∃ b mb, e = .returned (.pointer (some ⟨b, 0, none⟩)) ∧ ListIs w.heap.size w' b mb [] ∧ Below w.heap.size w w' := by
  have hmm := @run_makeMap Try.prog
  go_enter Try.func8, Try.ntmps8
  go_wp2_with fail
  go_returns
  refine ⟨w.heap.size + 1, w.heap.size, rfl, ⟨[], [], by omega, Nat.le_refl _, ?_, ⟨rfl, by simp, by simp⟩, by simp, by simp, (MapIs.made w _ _).alloc _, rfl, fun h => rfl⟩, by go_grown⟩
  have := Has.new (w.alloc (.map #[] 0)) 58 #[.map (some w.heap.size), .pointer none, .pointer none]
  rw [World.size_alloc] at this
  exact this

theorem list_end (w : World) (b mb : Nat) (f l : Value) (h : Has w b 58 #[.map (some mb), f, l]) (front : Bool) :
    Calls Try.prog 26 #[.pointer (some ⟨b, 0, none⟩), .bool front] w fun e w' => e = .returned (if front then f else l) ∧ w = w' := by
  have c1 : w.cell? ⟨b, 1, none⟩ = some f := h.cell 1
  have c2 : w.cell? ⟨b, 2, none⟩ = some l := h.cell 2
  clear h
  cases front
  all_goals
    go_enter Try.func26, Try.ntmps26
    go_wp2_with fail
    go_returns
    exact ⟨rfl, rfl⟩

theorem run_mlen {P : Program} {w : World} {t ty : TypeId} {k e : TypeId} {mb : Nat} {es : Array MapEntry} {clock : Nat} (hT : P.underlying t = some (.map k e)) (he : w.heap[mb]? = some (.map es clock)) :
    (Builtin.len_ #[t] ty #[.map (some mb)]).run P w = .ok (.int .i64 es.size) w := by
  simp [Builtin.len_, run_underlying hT, MapKept.run_getObj_map he, Result.andThen, goInt]

theorem list_len (N : Nat) (w : World) (b mb : Nat) (hs : List (Int × Int)) (h : ListIs N w b mb hs) :
    Calls Try.prog 12 #[.pointer (some ⟨b, 0, none⟩)] w fun e w' => e = .returned (.int .i64 hs.length) ∧ w = w' := by
  obtain ⟨ks, m, _, _, hb, _, _, _, hm, hl, _⟩ := h
  obtain ⟨es, clock, he, hz⟩ := run_size hm
  have c0 : w.cell? ⟨b, 0, none⟩ = some (.map (some mb)) := hb.cell 0
  rw [← hl, ← hz]
  have hn := run_mlen (P := Try.prog) (ty := 3) Try.underlying55 he
  clear hb hm hl hz he
  go_enter Try.func12, Try.ntmps12
  go_wp2_with fail
  go_returns
  exact ⟨rfl, rfl⟩

end Go.Proofs.Ytagminbfboncoaa
