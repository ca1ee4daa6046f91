/- Types: Large, as a contract. -/
import Derived.Test.YtkflofjcjolehaaBig16
import Derived.Test.YtkflofjcjolehaaBig13
namespace Go.Proofs.Ytkflofjcjolehaa.Lg
open Go.RowKit Go.Proofs.Ytkflofjcjolehaa.HLarge Go.Proofs.YtkflofjcjolehaaW.PrintWords Go.Proofs.YtkflofjcjolehaaW.PrintLast
set_option linter.unusedSimpArgs false
set_option linter.unusedVariables false

def toF (x : S46) : Fl := ⟨x.f0, x.f1, x.f2, x.f3, x.f4⟩
def toT (x : S44) : Tp := ⟨x.f0, x.f1, x.f2.map toF⟩
def fromF (x : Fl) : S46 := ⟨x.nm, x.kd, x.at_, x.of, x.node⟩
def fromT (x : Tp) : S44 := ⟨x.nm, x.sz, x.fs.map fromF⟩
theorem toT_at (l : List S44) (i : Nat) : (l.map toT).getD i zT = toT (l.getD i z44) := getD_map toT l i z44
theorem toF_at (l : List S46) (i : Nat) : (l.map toF).getD i zF = toF (l.getD i z46) := getD_map toF l i z46
theorem rd44 (l : List S44) (i : Nat) : rd_T44 l (i : Int) = l.getD i z44 := rfl
theorem rd46 (l : List S46) (i : Nat) : rd_T46 l (i : Int) = l.getD i z46 := rfl
theorem toT_fs (t : S44) : (toT t).fs = t.f2.map toF := rfl
theorem ok_at {l : List S44} (h : okTps (l.map toT) = true) (i : Nat) (hi : i < l.length) : (l.getD i z44).f0.size ≤ 1000000000000000 ∧ (l.getD i z44).f2.length ≤ 1000000000000000 ∧ ∀ f ∈ (l.getD i z44).f2, okFl (toF f) = true := by
  have ht := okTp_nm (okTp_get h i (by rw [List.length_map]; exact hi))
  rw [toT_at] at ht
  exact ⟨ht.1, by have h2 : ((l.getD i z44).f2.map toF).length ≤ _ := ht.2.1; rwa [List.length_map] at h2, fun f hf => ht.2.2 _ (List.mem_map.2 ⟨f, hf, rfl⟩)⟩
theorem ok_len {l : List S44} (h : okTps (l.map toT) = true) : l.length ≤ 1000000000000000 := by
  have := okTps_len h
  rwa [List.length_map] at this

theorem rd_len {l : List S44} (h : rdTps (l.map toT)) : l.length ≤ 9223372036854775807 := by
  have := h.1
  rwa [List.length_map] at this
theorem rd_at {l : List S44} (h : rdTps (l.map toT)) (i : Nat) (hi : i < l.length) : (l.getD i z44).f2.length ≤ 9223372036854775807 := by
  have := (h.2 (toT (l.getD i z44)) (List.mem_map.2 ⟨_, by rw [List.getD_eq_getElem?_getD, List.getElem?_eq_getElem hi]; exact List.getElem_mem hi, rfl⟩)).1
  rwa [toT_fs, List.length_map] at this
theorem toF_from (f : Fl) : toF (fromF f) = f := rfl
theorem toT_from (t : Tp) : toT (fromT t) = t := by
  obtain ⟨a, b, c⟩ := t
  show (⟨a, b, (c.map fromF).map toF⟩ : Tp) = _
  rw [List.map_map, show toF ∘ fromF = id from rfl, List.map_id]
theorem toTs_from (l : List Tp) : (l.map fromT).map toT = l := by
  rw [List.map_map, show toT ∘ fromT = id from funext toT_from, List.map_id]
theorem cT_to {w : World} {A : Option Addr} {n : Nat} {l : List Tp} (h : kT.C w A n l) : Kd.C k44 w A n (l.map fromT) := C_of_C fromT rfl (fun x cs h => by
  obtain ⟨_, _, rfl, rfl, _, _, rfl, rfl, A2, c2, rfl, l2, g2⟩ := h
  exact ⟨_, _, rfl, rfl, _, _, rfl, rfl, A2, c2, by show [Value.slice A2 x.fs.length c2] = [Value.slice A2 (x.fs.map fromF).length c2]; rw [List.length_map], by show (x.fs.map fromF).length ≤ c2; rw [List.length_map]; exact l2, by
    show Kd.C k46 _ A2 (x.fs.map fromF).length (x.fs.map fromF)
    rw [List.length_map]
    exact C_of_C fromF rfl (fun x cs h => h) g2⟩) h

theorem large_l1 (l : List S44) (i : Nat) (hi : i < l.length) (hln : l.length ≤ 9223372036854775807) (hn : (l.getD i z44).f2.length ≤ 9223372036854775807) : ∀ d j, (l.getD i z44).f2.length - j = d → j ≤ (l.getD i z44).f2.length →
    ((((l.getD i z44).f2.map toF).drop j).any (fun f => decide (f.nm.size > 300)) = true → Ev (fun q => wardenlaw10_Large.l1 q l (i : Int) (j : Int)) true) ∧
    ((((l.getD i z44).f2.map toF).drop j).any (fun f => decide (f.nm.size > 300)) = false → ∀ r, Ev (fun q => wardenlaw10_Large.l0 q l ((i + 1 : Nat) : Int)) r → Ev (fun q => wardenlaw10_Large.l1 q l (i : Int) (j : Int)) r) := by
  intro d
  induction d with
  | zero =>
    intro j hd hj
    rw [List.drop_of_length_le (by rw [List.length_map]; omega)]
    refine ⟨(fun h => by cases h), fun _ r hr => Ev.step (f := fun q => wardenlaw10_Large.l0 q l ((i + 1 : Nat) : Int)) (fun q => ?_) hr⟩
    simp only [wardenlaw10_Large.l1]
    rw [if_pos (by omega), if_pos (by omega), rd44, if_neg (by omega), wr64 (by omega) (by omega)]
    rfl
  | succ d ih =>
    intro j hd hj
    have hlt : j < (l.getD i z44).f2.length := by omega
    obtain ⟨i1, i2⟩ := ih (j + 1) (by omega) (by omega)
    have hst : ∀ q, wardenlaw10_Large.l1 (q + 1) l (i : Int) (j : Int) = if (((l.getD i z44).f2.getD j z46).f0.size : Int) > 300 then some true else wardenlaw10_Large.l1 q l (i : Int) ((j + 1 : Nat) : Int) := by
      intro q
      simp only [wardenlaw10_Large.l1]
      rw [if_pos (by omega), if_pos (by omega), rd44, if_pos (by omega), if_pos (by omega), rd46, wr64 (by omega) (by omega)]
      rfl
    rw [List.drop_eq_getElem_cons (by rw [List.length_map]; exact hlt), List.getElem_map, List.any_cons]
    have hg : (l.getD i z44).f2.getD j z46 = (l.getD i z44).f2[j] := by rw [List.getD_eq_getElem?_getD, List.getElem?_eq_getElem hlt]; rfl
    rw [← hg]
    show ((decide (((l.getD i z44).f2.getD j z46).f0.size > 300) || _) = true → _) ∧ ((decide (((l.getD i z44).f2.getD j z46).f0.size > 300) || _) = false → _)
    by_cases hb : ((l.getD i z44).f2.getD j z46).f0.size > 300
    · rw [decide_eq_true hb, Bool.true_or]
      exact ⟨fun _ => Ev.step (fun q => by rw [hst q, if_pos (by omega)]) (Ev.now _), (fun h => by cases h)⟩
    · rw [decide_eq_false hb, Bool.false_or]
      exact ⟨fun h => Ev.step (fun q => by rw [hst q, if_neg (by omega)]) (i1 h), fun h r hr => Ev.step (fun q => by rw [hst q, if_neg (by omega)]) (i2 h r hr)⟩

theorem large_l0 {l : List S44} (hok : rdTps (l.map toT)) : ∀ d i, l.length - i = d → i ≤ l.length → Ev (fun q => wardenlaw10_Large.l0 q l (i : Int)) (((l.map toT).drop i).any largeT) := by
  have hln := rd_len hok
  intro d
  induction d with
  | zero =>
    intro i hd hi
    rw [List.drop_of_length_le (by rw [List.length_map]; omega)]
    refine Ev.step (f := fun _ => some false) (fun q => ?_) (Ev.now _)
    simp only [wardenlaw10_Large.l0]
    rw [if_neg (by omega)]
  | succ d ih =>
    intro i hd hi
    have hlt : i < l.length := by omega
    have k2 := rd_at hok i hlt
    have hi1 := ih (i + 1) (by omega) (by omega)
    rw [List.drop_eq_getElem_cons (by rw [List.length_map]; exact hlt), List.getElem_map, List.any_cons]
    have hg : l.getD i z44 = l[i] := by rw [List.getD_eq_getElem?_getD, List.getElem?_eq_getElem hlt]; rfl
    rw [← hg]
    have hj : ∀ x, Ev (fun q => wardenlaw10_Large.j1 q l (i : Int) x) (x || ((l.getD i z44).f2.map toF).any (fun f => decide (f.nm.size > 300)) || ((l.map toT).drop (i + 1)).any largeT) := by
      intro x
      refine Ev.step (f := fun q => if x = true then some true else wardenlaw10_Large.l1 q l (i : Int) ((0 : Nat) : Int)) (fun q => by simp only [wardenlaw10_Large.j1]; rfl) ?_
      cases x with
      | true => simp only [if_true, Bool.true_or]; exact Ev.now _
      | false =>
        simp only [Bool.false_eq_true, if_false, Bool.false_or]
        obtain ⟨q1, q2⟩ := large_l1 l i hlt hln k2 _ 0 rfl (by omega)
        rw [List.drop_zero] at q1 q2
        cases ha : ((l.getD i z44).f2.map toF).any (fun f => decide (f.nm.size > 300)) with
        | true => rw [Bool.true_or]; exact q1 ha
        | false => rw [Bool.false_or]; exact q2 ha _ hi1
    have hst : ∀ q, wardenlaw10_Large.l0 (q + 1) l (i : Int) = wardenlaw10_Large.j1 q l (i : Int) (decide ((l.getD i z44).f0.size > 300) || decide ((l.getD i z44).f2.length > 300)) := by
      intro q
      simp only [wardenlaw10_Large.l0]
      rw [if_pos (by omega), if_pos (by omega), rd44]
      by_cases h1 : (l.getD i z44).f0.size > 300
      · rw [if_pos (by omega), decide_eq_true h1, Bool.true_or]
      · rw [if_neg (by omega), decide_eq_false h1, Bool.false_or]
        congr 1
        exact decide_eq_decide.2 (by omega)
    refine Ev.step hst ?_
    have := hj (decide ((l.getD i z44).f0.size > 300) || decide ((l.getD i z44).f2.length > 300))
    have e : largeT (toT (l.getD i z44)) = ((decide ((l.getD i z44).f0.size > 300) || decide ((l.getD i z44).f2.length > 300)) || ((l.getD i z44).f2.map toF).any (fun f => decide (f.nm.size > 300))) := by
      show (decide ((l.getD i z44).f0.size > 300) || decide (((l.getD i z44).f2.map toF).length > 300) || _) = _
      rw [List.length_map]
      rfl
    rw [e]
    exact this

theorem large_ev {l : List S44} (hok : rdTps (l.map toT)) : Ev (fun q => wardenlaw10_Large.f q l) (largeF (l.map toT)) := by
  unfold wardenlaw10_Large.f largeF
  rw [List.length_map]
  by_cases h : l.length > 40
  · simp only [if_pos (show (l.length : Int) > 40 by omega), decide_eq_true h, Bool.true_or]
    exact Ev.now _
  · simp only [if_neg (show ¬ (l.length : Int) > 40 by omega), decide_eq_false h, Bool.false_or]
    exact large_l0 hok _ 0 rfl (by omega)

theorem law_large (w : World) (A : Option Addr) (c : Nat) (l : List Tp) (n : Nat) (hl : l.length = n) (hC : kT.C w A n l) (hc : n ≤ c) (hrd : rdTps l) :
    Calls Try.prog 10 #[.slice A n c] w fun e w' => e = .returned (.bool (largeF l)) ∧ Below w.heap.size w w' := by
  subst hl
  obtain ⟨k, hk⟩ := (large_ev (l := l.map fromT) (by rw [toTs_from]; exact hrd)).rounds
  rw [toTs_from] at hk
  have h := wardenlaw10_Large.calls k A c (l.map fromT) _ w (by rw [List.length_map]; exact cT_to hC) (by rw [List.length_map]; exact hc) hk
  rw [List.length_map] at h
  refine h.mono ?_
  rintro e w' ⟨he, nd, rfl⟩
  exact ⟨he, Below.drewN_ (Below.refl _ _) nd⟩
end Go.Proofs.Ytkflofjcjolehaa.Lg
