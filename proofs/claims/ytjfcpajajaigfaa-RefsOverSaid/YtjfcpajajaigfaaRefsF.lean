import Derived.Test.YtjfcpajajaigfaaRefsE
/-! Package refs: EndLent. -/
namespace Go.Proofs.Ytjfcpajajaigfaa
open Go.RowKit Go.Maps Go.Shelf
attribute [local go_sem] Oper.semAt_some
set_option maxHeartbeats 2000000
set_option maxRecDepth 100000
set_option linter.unusedSimpArgs false
set_option linter.unusedVariables false

/-- The references behind the end of those whose numbers are told. -/
def ov (L : List Rf) (pre : List Nat) : List Rf := L.mapIdx fun j y => if j + 1 ∈ pre then y.as 3 else y
theorem ov_length (L : List Rf) (pre : List Nat) : (ov L pre).length = L.length := by simp [ov]
theorem ov_at (L : List Rf) (pre : List Nat) (j : Nat) : (ov L pre)[j]? = L[j]?.map fun y => if j + 1 ∈ pre then y.as 3 else y := by simp [ov]
theorem ov_nil (L : List Rf) : ov L [] = L := by
  apply List.ext_getElem?
  intro j
  rw [ov_at]
  simp
theorem ov_next (L : List Rf) (pre : List Nat) (i : Nat) (y : Rf) (h : L[i]? = some y) : ov L (pre ++ [i + 1]) = (ov L pre).set i (y.as 3) := by
  apply List.ext_getElem?
  intro j
  have hi := (List.getElem?_eq_some_iff.1 h).1
  rw [ov_at, List.getElem?_set, ov_length]
  by_cases e : i = j
  · subst e
    rw [if_pos rfl, if_pos hi, h]
    simp
  · rw [if_neg e, ov_at]
    have : (j + 1 ∈ pre ++ [i + 1]) ↔ (j + 1 ∈ pre) := by
      simp only [List.mem_append, List.mem_singleton]
      constructor
      · rintro (h | h)
        · exact h
        · omega
      · exact .inl
    simp only [this]

theorem nums_mem (L : List Rf) (k : Int) : ∀ i x, x ∈ nums L k i ↔ ∃ j y, j < i ∧ x = j + 1 ∧ L[j]? = some y ∧ y.k = k
  | 0, x => by
    constructor
    · intro h; simp [nums] at h
    · rintro ⟨j, y, h, _⟩; omega
  | i + 1, x => by
    have ih := nums_mem L k i x
    cases hL : L[i]? with
    | none =>
      have e : nums L k (i + 1) = nums L k i := by
        show (match L[i]? with | some y => if y.k = k then nums L k i ++ [i + 1] else nums L k i | none => nums L k i) = _
        rw [hL]
      rw [e, ih]
      constructor
      · rintro ⟨j, y, h1, h2⟩; exact ⟨j, y, by omega, h2⟩
      · rintro ⟨j, y, h1, h2, h3, h4⟩
        by_cases e : j = i
        · subst e; rw [hL] at h3; cases h3
        · exact ⟨j, y, by omega, h2, h3, h4⟩
    | some z =>
      by_cases hk : z.k = k
      · rw [nums_yes hL hk, List.mem_append, ih, List.mem_singleton]
        constructor
        · rintro (⟨j, y, h1, h2⟩ | h)
          · exact ⟨j, y, by omega, h2⟩
          · exact ⟨i, z, by omega, h, hL, hk⟩
        · rintro ⟨j, y, h1, h2, h3, h4⟩
          by_cases e : j = i
          · subst e; exact .inr h2
          · exact .inl ⟨j, y, by omega, h2, h3, h4⟩
      · rw [nums_no hL hk, ih]
        constructor
        · rintro ⟨j, y, h1, h2⟩; exact ⟨j, y, by omega, h2⟩
        · rintro ⟨j, y, h1, h2, h3, h4⟩
          by_cases e : j = i
          · subst e
            rw [hL] at h3
            injection h3 with h3
            subst h3
            exact absurd h4 hk
          · exact ⟨j, y, by omega, h2, h3, h4⟩

/-- What EndLent leaves. -/
def rEnd (L : List Rf) : List Rf := ov L (nums L 2 L.length)
theorem rEnd_at (L : List Rf) (j : Nat) : (rEnd L)[j]? = L[j]?.map fun y => if y.k = 2 then y.as 3 else y := by
  unfold rEnd
  rw [ov_at]
  cases hL : L[j]? with
  | none => rfl
  | some y =>
    have hj := (List.getElem?_eq_some_iff.1 hL).1
    have : (j + 1 ∈ nums L 2 L.length) ↔ y.k = 2 := by
      rw [nums_mem]
      constructor
      · rintro ⟨j2, z, h1, h2, h3, h4⟩
        have : j2 = j := by omega
        subst this
        rw [hL] at h3
        injection h3 with h3
        subst h3
        exact h4
      · intro h; exact ⟨j, y, hj, rfl, hL, h⟩
    simp only [Option.map_some, this]

theorem refs_endlent (N : Nat) (w : World) (b : Nat) (L : List Rf) (h : RefsIs N w b L) (hL : L.length ≤ 100000) :
    Calls Try.prog 26 #[.pointer (some ⟨b, 0, none⟩)] w fun e w' => e = .returned (.int .i64 ((nums L 2 L.length).length : Nat)) ∧ RefsIs N w' b (rEnd L) ∧ Turned (RefsMay N b w) w w' := by
  obtain ⟨A, c, hb, hown⟩ := h.form
  have hNb := h.1
  have hg0 : ∃ g0, (0 < L.length → A = some ⟨g0, 0, none⟩) := by
    by_cases hl : 0 < L.length
    · obtain ⟨g0, cap, hA⟩ := owns_some hown hl
      injection hA with hA1 _ _
      subst hA1
      exact ⟨g0, fun _ => rfl⟩
    · exact ⟨0, fun h => absurd h hl⟩
  obtain ⟨g0, hA⟩ := hg0
  refine (callsIn_wide (n := 4)).1 ?_
  refine callsIn_of_wp_marks Try.func26 rfl trivial ?_ rfl
  simp only [Try.ntmps26, List.size_toArray, List.length_cons, List.length_nil, Nat.reduceAdd, Nat.reduceSub, Array.replicate_succ, Array.replicate_zero, List.push_toArray, List.append_toArray, List.nil_append, List.cons_append]
  gi_wp2
  refine ⟨trivial, ?_⟩
  obtain ⟨w2, hw2⟩ : ∃ w2, w2 = (w.alloc (Obj.cells #[.pointer (some ⟨b, 0, none⟩)] 54)).alloc (Obj.cells #[.int .i64 0] 3) := ⟨_, rfl⟩
  have hT0 : Has w2 w.heap.size 54 #[.pointer (some ⟨b, 0, none⟩)] := by rw [hw2]; exact (Has.new w _ _).alloc _
  have hN0 : Has w2 (w.heap.size + 1) 3 #[.int .i64 0] := by rw [hw2]; simpa using Has.new (w.alloc (Obj.cells #[.pointer (some ⟨b, 0, none⟩)] 54)) 3 #[.int .i64 0]
  have hB0 : Below w.heap.size w w2 := by rw [hw2]; exact ((Below.refl _ w).alloc (Nat.le_refl _) _).alloc (by simp) _
  have hs0 : w2.heap.size = w.heap.size + 2 := by rw [hw2]; simp
  rw [← hw2]
  clear hw2
  refine (callsIn_wide.2 (refs_are w2 b 2)).mono ?_
  rintro e w1 ⟨bc, bk, rfl, hbc, hbk, hcap, hcapk, hb1⟩
  gi_wp2
  have hT1 := hT0.below hb1 (by omega)
  have hN1 := hN0.below hb1 (by omega)
  have hB1 : Below w.heap.size w w1 := hB0.trans (hb1.mono (by omega))
  have hz1' : w.heap.size + 2 ≤ w1.heap.size := by have := hb1.size; omega
  have hbW := hb.below hB1 hb.lt
  have hownW := owns_below hown hB1
  have hbl := hb.lt
  refine wpIn_range_of rfl (by omega) (gf := 39) (lb := #[.pointer (some ⟨bc, 0, none⟩), .pointer (some ⟨bk, 0, none⟩)]) rfl trivial (enters_of Try.func39 (by kernel_rfl) rfl)
    (are_rounds _ w1 b bc bk N L A g0 c 2 hL hbW hownW hA hcap hcapk) (Below.refl _ _) (fun _ => rfl) (fun x => fun _ _ _ _ h _ _ => h) (fun _ _ _ _ h _ _ => h) (fun _ _ _ _ h _ _ => h) (fun x A C l o o' _ h2 h3 h4 => keep_turn _ _ x A C l o o' h2 h3 h4)
    (fun pre W => (Has W b 82 #[.bool true, .slice A L.length c] ∧ W.ownsRow N 91 3 (.slice A L.length c) L.length (rowC Rf.enc (ov L pre))) ∧ (Has W w.heap.size 54 #[.pointer (some ⟨b, 0, none⟩)] ∧ Has W (w.heap.size + 1) 3 #[.int .i64 (pre.length : Nat)] ∧ Has W bk 5 #[.int .u8 2]) ∧ Turned (RefsMay N b w) w W ∧ w1.heap.size ≤ W.heap.size)
    (fun _ _ _ => False)
    (fun pre W W' h hg => ⟨⟨h.1.1.grown hg, owns_grown h.1.2 hg⟩, ⟨h.2.1.1.grown hg, h.2.1.2.1.grown hg, h.2.1.2.2.grown hg⟩, turned_grow h.2.2.1 hg, Nat.le_trans h.2.2.2 hg.size⟩)
    (fun pre W l o h hl ho => ⟨⟨h.1.1.turn ho, owns_turn h.1.2 ho⟩, ⟨h.2.1.1.turn ho, h.2.1.2.1.turn ho, h.2.1.2.2.turn ho⟩, turned_turn h.2.2.1 (by omega), by simpa using h.2.2.2⟩)
    (fun _ _ _ _ h _ => h) (fun _ _ _ _ _ h _ _ => h)
    ⟨⟨hbW, by rw [ov_nil]; exact hownW⟩, ⟨hT1, hN1, hcapk⟩, Turned.of_below hB1, Nat.le_refl _⟩
    (fun x a1 W => a1 = { tmps := #[.pointer (some ⟨b, 0, none⟩), .pointer (some ⟨w.heap.size, 0, none⟩), .pointer (some ⟨w.heap.size + 1, 0, none⟩), .int .u64 (x : Int), .pointer (some ⟨b, 0, none⟩), .func (.func 39) #[] #[.pointer (some ⟨bc, 0, none⟩), .pointer (some ⟨bk, 0, none⟩)], .int .u64 (x : Int), undef, undef, undef, undef, undef, undef, undef, undef, undef, undef, undef], defers := [] })
    (fun x a1 pre W l o h hl ho => h)
    (fun x => fun _ _ _ h _ => h) (fun x W W1 W3 hg h => keep_grown _ _ x W W1 W3 hg h) ?assign ?body ?done ?stop
  case assign =>
    rintro l pre x W K hI hf hsz hK
    gi_wp2
    exact hK _ _ ⟨rfl, rfl, rfl, Nat.le_refl _, fun _ _ _ => rfl⟩ rfl
  case body =>
    rintro l pre x a1 W rfl ⟨⟨hO, hrow⟩, ⟨hT, hNn, hK1⟩, hTu, hz⟩ ⟨i, y, rfl, hpre, hy, hyk⟩ hsz
    have hpl : pre.length ≤ 100000 := by
      rw [hpre]
      have h1 := nums_len L 2 i
      have := (List.getElem?_eq_some_iff.1 hy).1
      omega
    have hil : i < L.length := (List.getElem?_eq_some_iff.1 hy).1
    have hA2 := hA (by omega)
    subst hA2
    obtain ⟨z, hz0⟩ : ∃ z, (ov L pre)[i]? = some z := ⟨_, List.getElem?_eq_getElem (by rw [ov_length]; exact hil)⟩
    have hrow' : W.ownsRow N 91 3 (.slice (some ⟨g0, 0, none⟩) L.length c) (ov L pre).length (rowC Rf.enc (ov L pre)) := by rw [ov_length]; exact hrow
    obtain ⟨⟨a0, a1, a2⟩, f2⟩ := refs_at (b := b) hrow' hz0
    have t0 : W.cell? ⟨w.heap.size, 0, none⟩ = some (.pointer (some ⟨b, 0, none⟩)) := hT.cell 0
    have n0 : W.cell? ⟨w.heap.size + 1, 0, none⟩ = some (.int .i64 (pre.length : Nat)) := hNn.cell 0
    have fn0 := hNn.free 0
    have b1 : W.cell? ⟨b, 1, none⟩ = some (.slice (some ⟨g0, 0, none⟩) L.length c) := hO.cell 1
    obtain ⟨M, hM⟩ : ∃ M, M = L.length := ⟨_, rfl⟩
    rw [← hM] at b1
    have hiM : i < M := by omega
    have hM2 : M ≤ 100000 := by omega
    obtain ⟨X, hX⟩ : ∃ X : Int, X = ((i + 1 : Nat) : Int) := ⟨_, rfl⟩
    rw [← hX]
    have hX1 : X - 1 = (i : Int) := by omega
    have hXw : IntKind.u64.wrap (X - 1) = (i : Int) := by rw [wrap_u64 (by omega) (by omega)]; exact hX1
    obtain ⟨P, hP⟩ : ∃ P, P = pre.length := ⟨_, rfl⟩
    rw [← hP] at n0
    have hPw : IntKind.i64.wrap ((P : Int) + 1) = (P : Int) + 1 := wrap_i64 (by omega) (by omega)
    obtain ⟨cc, hcc⟩ := owns_block hrow (k := g0) rfl
    have ne1 : ¬ g0 = w.heap.size + 1 := hcc.ne hNn (by decide)
    have ne2 : ¬ w.heap.size + 1 = g0 := fun e => ne1 e.symm
    have ne3 : bk ≠ g0 := hK1.ne hcc (by decide)
    have ne4 : bk ≠ w.heap.size + 1 := hK1.ne hNn (by decide)
    have ne5 : b ≠ g0 := hO.ne hcc (by decide)
    have ne6 : b ≠ w.heap.size + 1 := hO.ne hNn (by decide)
    have ne7 : w.heap.size ≠ g0 := hT.ne hcc (by decide)
    have HALL := hide (And.intro hpre (And.intro hy (And.intro hyk (And.intro hX (And.intro hM hP)))))
    have HO := hide hO
    have HROW := hide hrow'
    have HZ := hide hz0
    have HT := hide hT
    have HN := hide hNn
    have HK := hide hK1
    have HTU := hide hTu
    have hrow0 := hrow
    have HROW0 := hide hrow0
    clear hrow0 hpre hy hyk hX hM hP hO hrow hrow' hz0 hT hNn hK1 hTu hX1 a0 a1
    gi_wp2
    have hz3 : z.as 3 = y.as 3 := by
      have h1 := HZ.out
      rw [ov_at, HALL.out.2.1] at h1
      simp only [Option.map_some] at h1
      injection h1 with h1
      rw [← h1]
      split <;> rfl
    have hset : ov L (pre ++ [i + 1]) = (ov L pre).set i (z.as 3) := by rw [hz3]; exact ov_next L pre i y HALL.out.2.1
    have hR1 : (W.setCell ⟨g0, i * 3 + 2, none⟩ (.int .u8 3)).ownsRow N 91 3 (.slice (some ⟨g0, 0, none⟩) L.length c) (ov L pre).length (rowC Rf.enc ((ov L pre).set i (z.as 3))) := by
      rw [rowC_set Rf.enc_length HZ.out (by omega) (rf_set z 3)]
      exact owns_set HROW.out (by rw [rowC_length Rf.enc_length, ov_length]; omega) _
    have hR2 := owns_kept (w' := (W.setCell ⟨g0, i * 3 + 2, none⟩ (.int .u8 3)).setCell ⟨w.heap.size + 1, 0, none⟩ (.int .i64 ((P : Int) + 1))) hR1 (fun q hq => Below.heap_setCell _ ⟨w.heap.size + 1, 0, none⟩ _ q (by
      simp [Value.ownBlock] at hq
      subst hq
      exact ne1))
    rw [ov_length] at hR2
    have hPP : ((P : Int) + 1) = (pre.length : Int) + 1 := by rw [HALL.out.2.2.2.2.2]
    refine ⟨((KeepsOthers.setCell _ _ _).trans (KeepsOthers.setCell _ _ _)).from _, ⟨fun q v hq hv => ?_, fun v hv => ?_⟩, ⟨(HO.out.far (p := ⟨g0, i * 3 + 2, none⟩) ne5 _).far (p := ⟨w.heap.size + 1, 0, none⟩) ne6 _, ?_⟩,
      ⟨(HT.out.far (p := ⟨g0, i * 3 + 2, none⟩) ne7 _).far (p := ⟨w.heap.size + 1, 0, none⟩) (by show w.heap.size ≠ w.heap.size + 1; omega) _, ?_, (HK.out.far (p := ⟨g0, i * 3 + 2, none⟩) ne3 _).far (p := ⟨w.heap.size + 1, 0, none⟩) ne4 _⟩, ?_, by rw [size_set, size_set]; exact hz⟩
    · rw [World.cell?_of_block (a := ⟨g0, q, none⟩) (Below.heap_setCell _ ⟨w.heap.size + 1, 0, none⟩ _ g0 ne1), World.cell?_setCell_other _ _ _ _ (by
        intro e
        injection e with _ e
        have hq2 : q ≠ (i + 1 - 1) * 3 + 2 := hq
        rw [Nat.add_sub_cancel] at hq2
        exact hq2 e.symm)]
      exact hv
    · rw [World.cell?_of_block (a := ⟨bk, 0, none⟩) (Below.heap_setCell _ ⟨w.heap.size + 1, 0, none⟩ _ bk ne4), World.cell?_of_block (a := ⟨bk, 0, none⟩) (Below.heap_setCell _ ⟨g0, i * 3 + 2, none⟩ _ bk ne3)]
      exact hv
    · rw [hset]
      exact hR2
    · have := (HN.out.far (p := ⟨g0, i * 3 + 2, none⟩) ne2 (.int .u8 3)).set 0 (.int .i64 ((P : Int) + 1))
      rw [hPP] at this ⊢
      simpa using this
    · refine (HTU.out.set (p := ⟨g0, i * 3 + 2, none⟩) (fun hlt => ⟨owns_base HROW0.out rfl, .inr ?_⟩) _).set (p := ⟨w.heap.size + 1, 0, none⟩) (fun hlt => absurd hlt (by show ¬ w.heap.size + 1 < w.heap.size; omega)) _
      by_cases hm : RefsMay N b w g0
      · rcases hm with ⟨_, hm | hm⟩
        · exact absurd hm.symm ne5
        · exact hm
      · exact ⟨cc, (HTU.out.block g0 hlt hm).symm.trans hcc⟩
  case done =>
    rintro D xs W hD rfl ⟨⟨hO, hrow⟩, ⟨hT, hNn, hK1⟩, hTu, hz⟩ hK
    have n0 : W.cell? ⟨w.heap.size + 1, 0, none⟩ = some (.int .i64 ((nums L 2 L.length).length : Nat)) := hNn.cell 0
    have fn0 := hNn.free 0
    generalize hq : ((nums L 2 L.length).length : Nat) = q at *
    gi_wp2
    have hK' := (KeepsOthers.setCell W ⟨w.heap.size + 1, 0, none⟩ (.int .i64 (q : Int))).same D _ hK rfl
    have hN2 := (hNn.set 0 (.int .i64 (q : Int))).turn (o := .deferred none) ⟨_, hK', rfl⟩
    have rr : ((W.setCell ⟨w.heap.size + 1, 0, none⟩ (.int .i64 (q : Int))).putObj D (.deferred none)).cell? ⟨w.heap.size + 1, 0, none⟩ = some (.int .i64 (q : Int)) := hN2.cell 0
    refine ⟨by simp, .inl ⟨_, _, rfl, run_takeDeferred hK', ?_⟩⟩
    have ne6 : b ≠ w.heap.size + 1 := hO.ne hNn (by decide)
    refine ⟨_, by simp [results, Try.results26, go_sem, rr]; rfl, by rw [hq], ⟨hNb, .slice A L.length c, (hO.far (p := ⟨w.heap.size + 1, 0, none⟩) ne6 _).turn ⟨_, hK', rfl⟩, ?_⟩, turned_turn (hTu.set (p := ⟨w.heap.size + 1, 0, none⟩) (fun hlt => absurd hlt (by show ¬ w.heap.size + 1 < w.heap.size; omega)) _) (by omega)⟩
    refine owns_turn ?_ ⟨_, hK', rfl⟩
    have hl : (rEnd L).length = L.length := ov_length _ _
    rw [hl]
    refine owns_kept hrow (fun k hk => Below.heap_setCell W ⟨w.heap.size + 1, 0, none⟩ _ k (fun e => by
      obtain ⟨cc, hcc⟩ := owns_block hrow hk
      rw [e] at hcc
      exact absurd (hcc.eq hNn).1 (by decide)))
  case stop =>
    rintro D c pre W hD _ h hK
    exact h.elim

end Go.Proofs.Ytjfcpajajaigfaa
