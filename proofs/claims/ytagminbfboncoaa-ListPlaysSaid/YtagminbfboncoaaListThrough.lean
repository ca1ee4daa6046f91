import Derived.Test.YtagminbfboncoaaListWorks
/-! Package list: through. -/
namespace Go.Proofs.Ytagminbfboncoaa
open Go.RowKit Go.Maps
set_option maxHeartbeats 2000000
set_option maxRecDepth 100000
set_option linter.unusedSimpArgs false
set_option linter.unusedVariables false

theorem wrap_i64 {x : Int} (h0 : -9223372036854775808 ≤ x) (h1 : x < 9223372036854775808) : IntKind.i64.wrap x = x := by
  unfold IntKind.wrap
  simp [IntKind.signed, IntKind.bits]
  omega

theorem hAt_nodup {hs : List (Int × Int)} (hn : hs.Nodup) {j : Nat} {p : Int × Int} (h : hs[j]? = some p) : hAt hs p = some j := by
  unfold hAt
  obtain ⟨hj, rfl⟩ := List.getElem?_eq_some_iff.1 h
  rw [List.findIdx?_eq_some_iff_getElem]
  refine ⟨hj, by simp, ?_⟩
  intro i hi
  have : hs[i] ≠ hs[j] := fun e => by
    have := (List.getElem_inj hn).1 e
    omega
  simp [this]

theorem nextOf_nodup {hs : List (Int × Int)} (hn : hs.Nodup) {j : Nat} {p : Int × Int} (h : hs[j]? = some p) : nextOf hs p = hs[j + 1]? := by
  unfold nextOf
  rw [hAt_nodup hn h]
  rfl

theorem ListIs.nodup {N : Nat} {w : World} {b mb : Nat} {hs : List (Int × Int)} (h : ListIs N w b mb hs) : hs.Nodup := by
  obtain ⟨ks, m, _, _, _, _, h, _⟩ := h
  exact h

theorem ListIs.ok {N : Nat} {w : World} {b mb : Nat} {hs : List (Int × Int)} (h : ListIs N w b mb hs) : ∀ p ∈ hs, hOk p := by
  obtain ⟨ks, m, _, _, _, _, _, h, _⟩ := h
  exact h

theorem list_through (N : Nat) (w : World) (b mb : Nat) (hs : List (Int × Int)) (h : ListIs N w b mb hs) (hsm : hs.length ≤ 100000) :
    Calls Try.prog 11 #[.pointer (some ⟨b, 0, none⟩), .int .i64 hs.length] w fun e w' => e = .returned (.int .i64 hs.length) ∧ Below w.heap.size w w' := by
  have HN := hide h.nodup
  have HO := hide h.ok
  have HP := hide (list_peek N w b mb hs h true)
  have HL := hide h
  clear h
  have he : endOf hs true = hs[0]? := rfl
  rw [he] at HP
  obtain ⟨M, hM⟩ : ∃ M, M = hs.length := ⟨_, rfl⟩
  rw [← hM]
  rw [← hM] at hsm
  have HM := hide hM
  obtain ⟨s0, g0, hp0⟩ : ∃ s g, (s, g) = (hs[0]?).getD (0, 0) := ⟨_, _, rfl⟩
  rw [← hp0] at HP
  have HP0 := hide hp0
  obtain ⟨v0, hv0⟩ : ∃ v0, v0 = (hs[0]?).isSome := ⟨_, rfl⟩
  rw [← hv0] at HP
  have HV0 := hide hv0
  simp only [hv] at HP
  clear he hM hp0 hv0
  go_enter Try.func11, Try.ntmps11
  go_wp2_with fail
  refine HP.out.mono ?_
  rintro e w1 ⟨rfl, t1⟩
  have R : Has (w1.alloc (.cells #[.int .i64 s0, .int .u64 g0] 29)) w1.heap.size 29 #[.int .i64 s0, .int .u64 g0] := Has.new _ _ _
  have B := hide (t1.alloc t1.size (.cells #[.int .i64 s0, .int .u64 g0] 29))
  have L := hide ((HL.out.below t1).below ((Below.refl _ w1).alloc (Nat.le_refl _) (.cells #[.int .i64 s0, .int .u64 g0] 29)))
  have hx := t1.size
  have R := hide R
  clear t1
  go_wp2_with fail
  generalize w1.alloc (.cells #[.int .i64 s0, .int .u64 g0] 29) = W0 at *
  generalize w1.heap.size = x at *
  go_loopw [6, 7, 8] (fun is n i wr => ∃ (j : Nat) (s g : Int), j ≤ M ∧ i = .int .i64 j ∧ n = .int .i64 j ∧ is = .bool (hs[j]?).isSome ∧ (s, g) = (hs[j]?).getD (0, 0) ∧ ListIs N wr b mb hs ∧ Has wr x 29 #[.int .i64 s, .int .u64 g] ∧ Below w.heap.size w wr)
    (fun is n i _ => M + 1 - (intOf i).toNat)
  case atStart => exact ⟨0, s0, g0, Nat.zero_le _, rfl, rfl, by rw [HV0.out], HP0.out, L.out, R.out, B.out⟩
  case round =>
    obtain ⟨j, s, g, hj, rfl, rfl, rfl, hp, hL, hR, hB⟩ := hrel
    cases hx2 : hs[j]? with
    | none =>
      have hjM : j = M := by
        have := List.getElem?_eq_none_iff.1 hx2
        have := HM.out
        omega
      have hd : decide ((j : Int) ≤ (M : Int)) = true := decide_eq_true (by omega)
      rw [hx2] at hp
      simp only [Option.isSome]
      have HB := hide hB
      clear hx2 hp hL hR hB
      subst hjM
      go_wp2_with fail
      go_returns
      exact ⟨rfl, HB.out⟩
    | some p =>
      have hjM : j < M := by
        have := (List.getElem?_eq_some_iff.1 hx2).1
        have := HM.out
        omega
      have hd : decide ((j : Int) ≤ (M : Int)) = true := decide_eq_true (by omega)
      have hkw : IntKind.i64.wrap ((j : Int) + 1) = (j : Int) + 1 := wrap_i64 (by omega) (by omega)
      rw [hx2] at hp
      obtain rfl : (s, g) = p := hp
      have HG := list_next N wr b mb hs hL (s, g) (HO.out _ (List.mem_of_getElem? hx2))
      rw [nextOf_nodup HN.out hx2] at HG
      obtain ⟨s2, g2, hp2⟩ : ∃ s g, (s, g) = (hs[j + 1]?).getD (0, 0) := ⟨_, _, rfl⟩
      rw [← hp2] at HG
      simp only [hv] at HG
      obtain ⟨v2, hv2⟩ : ∃ v2, v2 = (hs[j + 1]?).isSome := ⟨_, rfl⟩
      rw [← hv2] at HG
      have HG := hide HG
      have HP2 := hide hp2
      have HV2 := hide hv2
      have HR := hide hR
      have HL := hide hL
      have HB := hide hB
      have e0 : wr.cell? ⟨x, 0, none⟩ = some (.int .i64 s) := hR.cell 0
      have e1 : wr.cell? ⟨x, 1, none⟩ = some (.int .u64 g) := hR.cell 1
      simp only [Option.isSome]
      clear hx2 hL hR hB hp2 hv2
      go_wp2_with fail
      refine HG.out.mono ?_
      rintro e w2 ⟨rfl, t2⟩
      have HR2 := hide ((HR.out.below t2 HR.out.lt).alloc (.cells #[.int .i64 s2, .int .u64 g2] 29))
      have HL2 := hide ((HL.out.below t2).below ((Below.refl _ w2).alloc (Nat.le_refl _) (.cells #[.int .i64 s2, .int .u64 g2] 29)))
      have hB3 := HB.out.trans (t2.mono HB.out.size)
      have HB2 := hide (hB3.alloc hB3.size (.cells #[.int .i64 s2, .int .u64 g2] 29))
      clear t2 hB3 e0 e1
      have f0 := HR2.out.free 0
      have f1 := HR2.out.free 1
      have k0 : (w2.alloc (.cells #[.int .i64 s2, .int .u64 g2] 29)).cell? ⟨w2.heap.size, 0, none⟩ = some (.int .i64 s2) := (Has.new _ _ _).cell 0
      have k1 : (w2.alloc (.cells #[.int .i64 s2, .int .u64 g2] 29)).cell? ⟨w2.heap.size, 1, none⟩ = some (.int .u64 g2) := (Has.new _ _ _).cell 1
      have k2 := HR2.out.cell 0
      have k3 := HR2.out.cell 1
      simp at k2 k3
      go_wp2_with fail
      go_roundw
      case rel =>
        refine ⟨j + 1, s2, g2, by omega, rfl, rfl, by rw [HV2.out]; cases hs[j + 1]? <;> rfl, HP2.out, (HL2.out.far HR2.out (by decide) (by decide) 0 _).far (HR2.out.set 0 _) (by decide) (by decide) 1 _, (HR2.out.set 0 _).set 1 _, (HB2.out.setCell (p := ⟨x, 0, none⟩) hx _).setCell (p := ⟨x, 1, none⟩) hx _⟩
      case measure => simp [intOf]; omega

end Go.Proofs.Ytagminbfboncoaa
