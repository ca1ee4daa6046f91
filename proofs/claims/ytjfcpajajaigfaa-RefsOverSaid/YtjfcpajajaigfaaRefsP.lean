import Derived.Test.YtjfcpajajaigfaaRefsWorks
import Derived.Test.YtjfcpajajaigfaaShapes
/-! The law RefsOver: what its steps make of the references; its map. -/
namespace Go.Proofs.Ytjfcpajajaigfaa
open Go.RowKit Go.Maps
set_option maxHeartbeats 4000000
set_option maxRecDepth 100000
set_option linter.unusedSimpArgs false
set_option linter.unusedVariables false

def u64Key (a : Int) : Value := .int .u64 a
def u64Ok (a : Int) : Prop := (Lit.int .u64 a).wf = true
theorem u64_mkey : MKey Try.prog 50 u64Key u64Ok :=
  MKey.of_keyed (int_keyed Try.underlying50) (fun {a b} h => by simpa [u64Key] using h) (fun a ha => ⟨_, keyOf_int_mk Try.underlying50 ha⟩)

/-- The kinds that there are. -/
def Kinds (L : List Rf) : Prop := ∀ y ∈ L, y.k = 1 ∨ y.k = 2 ∨ y.k = 3
/-- Whoever is over stays so. -/
def Stay (L L' : List Rf) : Prop := ∀ (j : Nat) (y : Rf), L[j]? = some y → y.k = 3 → ∃ z : Rf, L'[j]? = some z ∧ z.k = 3

theorem Stay.refl (L : List Rf) : Stay L L := fun j y h1 h2 => ⟨y, h1, h2⟩
theorem stay_append (L : List Rf) (x : Rf) : Stay L (L ++ [x]) := fun j y h1 h2 => ⟨y, by
  rw [List.getElem?_append_left (List.getElem?_eq_some_iff.1 h1).1]
  exact h1, h2⟩
theorem kinds_append {L : List Rf} {x : Rf} (h : Kinds L) (hx : x.k = 1 ∨ x.k = 2 ∨ x.k = 3) : Kinds (L ++ [x]) := fun y hy => by
  rcases List.mem_append.1 hy with h1 | h1
  · exact h y h1
  · simp at h1; subst h1; exact hx
theorem stay_set {L : List Rf} {m : Nat} {x : Rf} (h : L[m]? = some x) (hk : x.k ≠ 3) (z : Rf) : Stay L (L.set m z) := fun j y h1 h2 => by
  by_cases e : m = j
  · subst e
    rw [h] at h1
    injection h1 with h1
    subst h1
    exact absurd h2 hk
  · exact ⟨y, by rw [List.getElem?_set, if_neg e]; exact h1, h2⟩
theorem kinds_set {L : List Rf} (h : Kinds L) (m : Nat) (z : Rf) (hz : z.k = 1 ∨ z.k = 2 ∨ z.k = 3) : Kinds (L.set m z) := fun y hy => by
  rcases List.mem_or_eq_of_mem_set hy with h1 | rfl
  · exact h y h1
  · exact hz

theorem lend_facts {L : List Rf} (h : Kinds L) (r : Int) : (rLend L r).1.length = L.length ∧ Kinds (rLend L r).1 ∧ Stay L (rLend L r).1 := by
  unfold rLend
  split
  · rename_i x hx
    split
    · rename_i h1
      split
      · exact ⟨by simp, kinds_set h _ _ (.inr (.inl rfl)), stay_set hx h1.2 _⟩
      · exact ⟨rfl, h, Stay.refl L⟩
    · exact ⟨rfl, h, Stay.refl L⟩
  · exact ⟨rfl, h, Stay.refl L⟩
theorem over_facts {L : List Rf} (h : Kinds L) (r : Int) : (rOver L r).1.length = L.length ∧ Kinds (rOver L r).1 ∧ Stay L (rOver L r).1 ∧
    ((rOver L r).2 = 0 → ∃ (j : Nat) (y : Rf), r = ((j + 1 : Nat) : Int) ∧ (rOver L r).1[j]? = some y ∧ y.k = 3) := by
  unfold rOver
  split
  · rename_i x hx
    split
    · rename_i h1
      refine ⟨by simp, kinds_set h _ _ (.inr (.inr rfl)), stay_set hx h1.2 _, fun _ => ⟨(r - 1).toNat, x.as 3, by omega, ?_, rfl⟩⟩
      rw [List.getElem?_set, if_pos rfl, if_pos (List.getElem?_eq_some_iff.1 hx).1]
    · exact ⟨rfl, h, Stay.refl L, fun h => by cases h⟩
  · exact ⟨rfl, h, Stay.refl L, fun h => by cases h⟩
theorem end_facts {L : List Rf} (h : Kinds L) : (rEnd L).length = L.length ∧ Kinds (rEnd L) ∧ Stay L (rEnd L) ∧ ∀ (j : Nat) (y : Rf), (rEnd L)[j]? = some y → y.k ≠ 2 := by
  refine ⟨ov_length _ _, fun y hy => ?_, fun j y h1 h2 => ⟨y, ?_, h2⟩, fun j y hy => ?_⟩
  · obtain ⟨j, hj⟩ := List.getElem?_of_mem hy
    rw [rEnd_at] at hj
    obtain ⟨z, hz, rfl⟩ := Option.map_eq_some_iff.1 hj
    split
    · exact .inr (.inr rfl)
    · exact h z (List.mem_of_getElem? hz)
  · rw [rEnd_at, h1]
    simp [h2]
  · rw [rEnd_at] at hy
    obtain ⟨z, hz, rfl⟩ := Option.map_eq_some_iff.1 hy
    split
    · show (3 : Int) ≠ 2
      decide
    · assumption
theorem end_nums (L : List Rf) : ∀ i, nums (rEnd L) 1 i = nums L 1 i
  | 0 => rfl
  | i + 1 => by
    have ih := end_nums L i
    have he := rEnd_at L i
    cases hL : L[i]? with
    | none =>
      rw [hL] at he
      have e1 : nums (rEnd L) 1 (i + 1) = nums (rEnd L) 1 i := by
        show (match (rEnd L)[i]? with | some y => if y.k = 1 then nums (rEnd L) 1 i ++ [i + 1] else nums (rEnd L) 1 i | none => nums (rEnd L) 1 i) = _
        rw [he]
        rfl
      have e2 : nums L 1 (i + 1) = nums L 1 i := by
        show (match L[i]? with | some y => if y.k = 1 then nums L 1 i ++ [i + 1] else nums L 1 i | none => nums L 1 i) = _
        rw [hL]
      rw [e1, e2, ih]
    | some y =>
      rw [hL] at he
      simp only [Option.map_some] at he
      by_cases h1 : y.k = 1
      · rw [if_neg (by omega)] at he
        rw [nums_yes he h1, nums_yes hL h1, ih]
      · by_cases h2 : y.k = 2
        · rw [if_pos h2] at he
          rw [nums_no he (by show (3 : Int) ≠ 1; decide), nums_no hL h1, ih]
        · rw [if_neg h2] at he
          rw [nums_no he h1, nums_no hL h1, ih]

/-- The map of those that were over. -/
def OverIs (w : World) (om : Nat) (L : List Rf) : Prop := ∃ m, MapIs w om u64Key u64Ok m ∧ ∀ p ∈ m, p.2 = .int .i64 1 ∧ ∃ (j : Nat) (y : Rf), p.1 = ((j + 1 : Nat) : Int) ∧ L[j]? = some y ∧ y.k = 3

theorem zero_int (w : World) : (zeroValue 3).run Try.prog w = .ok (.int .i64 0) w := by kernel_rfl

section
variable {w w' : World} {om b N u : Nat} {L L' : List Rf} {S : Nat → Prop}
theorem OverIs.lt (h : OverIs w om L) : om < w.heap.size := by obtain ⟨m, hm, _⟩ := h; exact hm.lt
theorem OverIs.stay (h : OverIs w om L) (hs : Stay L L') : OverIs w om L' := by
  obtain ⟨m, hm, hp⟩ := h
  refine ⟨m, hm, fun p hpm => ?_⟩
  obtain ⟨h1, j, y, h2, h3, h4⟩ := hp p hpm
  obtain ⟨z, h5, h6⟩ := hs j y h3 h4
  exact ⟨h1, j, z, h2, h5, h6⟩
theorem OverIs.below (h : OverIs w om L) (hb : Below w.heap.size w w') : OverIs w' om L := by
  obtain ⟨m, hm, hp⟩ := h
  exact ⟨m, hm.kept (hb.block _ hm.lt), hp⟩
theorem OverIs.turned (h : OverIs w om L) (ht : Turned S w w') (hn : ¬ S om) : OverIs w' om L := by
  obtain ⟨m, hm, hp⟩ := h
  exact ⟨m, hm.turned ht hn, hp⟩
theorem OverIs.ne (h : OverIs w om L) {k : Nat} {t : TypeId} {c : Array Value} (hk : Has w k t c) : k ≠ om := by
  rintro rfl
  obtain ⟨m, ⟨es, clock, hm, _⟩, _⟩ := h
  unfold Has at hk
  rw [hk] at hm
  cases hm
theorem OverIs.may (h : OverIs w om L) (hr : RefsIs N w b L') : ¬ RefsMay N b w om := by
  obtain ⟨_, v, hb, _⟩ := hr
  have hne := h.ne hb
  obtain ⟨m, hm, _⟩ := h
  exact RefsMay.mapOf hm (Ne.symm hne)
/-- Behind a turn of the map alone. -/
theorem RefsIs.mapTurned (h : RefsIs N w b L) (ho : OverIs w om L') (ht : Turned (fun k => k = om) w w') : RefsIs N w' b L := by
  obtain ⟨h0, v, h1, h2⟩ := h
  exact ⟨h0, v, h1.turned ht (ho.ne h1), owns_turned h2 ht (fun k hk e => by
    obtain ⟨c, hc⟩ := owns_block h2 hk
    exact ho.ne hc e)⟩
theorem OverIs.get (h : OverIs w om L) {X : Int} (hX : u64Ok X) : ∃ o : Int, (o = 0 ∨ (o = 1 ∧ ∀ (j : Nat) (y : Rf), X = ((j + 1 : Nat) : Int) → L[j]? = some y → y.k = 3)) ∧ (Instr.lookup 56 (.map (some om)) (.int .u64 X) false).run Try.prog w = .ok (.int .i64 o) w := by
  obtain ⟨m, hm, hp⟩ := h
  have hr := run_get u64_mkey Try.underlying56 (zero_int w) hm hX false
  rw [if_neg (by simp)] at hr
  cases hg : mget m X with
  | none =>
    rw [hg] at hr
    exact ⟨0, .inl rfl, hr⟩
  | some v =>
    rw [hg] at hr
    obtain ⟨h1, j, y, h2, h3, h4⟩ := hp _ (mget_mem hg)
    simp only [] at h1 h2
    subst h1
    refine ⟨1, .inr ⟨rfl, fun j2 y2 h5 h6 => ?_⟩, hr⟩
    have : j2 = j := by omega
    subst this
    rw [h3] at h6
    injection h6 with h6
    subst h6
    exact h4
theorem OverIs.put (h : OverIs w om L) {X : Int} (hX : u64Ok X) {j : Nat} {y : Rf} (hj : X = ((j + 1 : Nat) : Int)) (hy : L[j]? = some y) (hk : y.k = 3) :
    ∃ w2, (Instr.mapUpdate 56 (.map (some om)) (.int .u64 X) (.int .i64 1)).run Try.prog w = .ok () w2 ∧ OverIs w2 om L ∧ Turned (fun k => k = om) w w2 := by
  obtain ⟨m, hm, hp⟩ := h
  obtain ⟨w2, h1, h2, h3⟩ := run_put u64_mkey Try.underlying56 hm hX (.int .i64 1)
  refine ⟨w2, h1, ⟨_, h2, fun p hpm => ?_⟩, h3⟩
  rcases mput_keys _ _ _ p hpm with rfl | hpm
  · exact ⟨rfl, j, y, hj, hy, hk⟩
  · exact hp p hpm
end

theorem u64_ok {X : Int} (h0 : 0 ≤ X) (h1 : X < 18446744073709551616) : u64Ok X := by
  unfold u64Ok Lit.wf
  simp [IntKind.min, IntKind.max, IntKind.bits, IntKind.signed]
  omega

end Go.Proofs.Ytjfcpajajaigfaa
