/- The law TypesFirst, walked: it returns true, whatever tables it is handed. -/
import Derived.Test.YtkflofjcjolehaaBig17
import Derived.Test.YtkflofjcjolehaaBig15
import Derived.Laws.AppendOwnNone
/-! Types: First. -/
namespace Go.Proofs.Ytkflofjcjolehaa
open Go.RowKit Go.Proofs.YtkflofjcjolehaaW.PrintWords
set_option maxHeartbeats 4000000
set_option maxRecDepth 100000
set_option linter.unusedSimpArgs false
set_option linter.unusedVariables false

theorem take_drop_get {α : Type} (l : List α) (a n i : Nat) (hi : i < n) : ((l.drop a).take n)[i]? = l[a + i]? := by
  rw [List.getElem?_take, if_pos hi, List.getElem?_drop]

/-- The cells of a row that is read, one behind the other. -/
theorem row_cells {α : Type} {d : Kd α} {w : World} {ad : Addr} {n : Nat} {xs : List α} (h : d.C w (some ad) n xs) (hn : 0 < n) :
    ∃ news : List Value, news.length = n * d.sz ∧ (∀ j u, news[j]? = some u → w.cell? (ad.add j) = some u) ∧ (∀ u ∈ news, u.oneCell' = true) ∧ Reps (d.K w) d.sz xs news := by
  obtain ⟨ad', e, hx⟩ := h.2.2 hn
  cases e
  have hlen := h.1
  have key : ∀ j p, xs[j]? = some p → ∃ c, c.length = d.sz ∧ d.K w p c ∧ ∀ i u, c[i]? = some u → w.cell? (ad.add (j * d.sz + i)) = some u := hx
  let news : List Value := (List.range (n * d.sz)).map fun j => (w.cell? (ad.add j)).getD undef
  have hl : news.length = n * d.sz := by simp [news]
  have at_ : ∀ j, j < n * d.sz → news[j]? = some ((w.cell? (ad.add j)).getD undef) := fun j hj => by
    show ((List.range (n * d.sz)).map _)[j]? = _
    rw [List.getElem?_map, List.getElem?_range hj]
    rfl
  have some_ : ∀ j, j < n * d.sz → ∃ u, w.cell? (ad.add j) = some u ∧ u.oneCell' = true := by
    intro j hj
    have hs : 0 < d.sz := by
      rcases Nat.eq_zero_or_pos d.sz with h0 | h0
      · rw [h0] at hj; omega
      · exact h0
    have hq : j / d.sz < n := Nat.div_lt_of_lt_mul (by rw [Nat.mul_comm]; exact hj)
    obtain ⟨p, hp⟩ : ∃ p, xs[j / d.sz]? = some p := ⟨_, List.getElem?_eq_getElem (by omega)⟩
    obtain ⟨c, c1, c2, c3⟩ := key _ p hp
    obtain ⟨u, hu⟩ : ∃ u, c[j % d.sz]? = some u := ⟨_, List.getElem?_eq_getElem (by rw [c1]; exact Nat.mod_lt _ hs)⟩
    refine ⟨u, ?_, d.K_one c2 u (List.mem_of_getElem? hu)⟩
    have := c3 _ u hu
    rwa [show j / d.sz * d.sz + j % d.sz = j by rw [Nat.mul_comm]; exact Nat.div_add_mod j d.sz] at this
  refine ⟨news, hl, fun j u hj => ?_, fun u hu => ?_, by rw [hl, hlen], fun j p hp => ?_⟩
  · have hjl : j < n * d.sz := by rw [← hl]; exact (List.getElem?_eq_some_iff.1 hj).1
    obtain ⟨v, hv, _⟩ := some_ j hjl
    rw [at_ j hjl, hv] at hj
    rw [hv]
    exact hj
  · obtain ⟨j, hj⟩ := List.getElem?_of_mem hu
    have hjl : j < n * d.sz := by rw [← hl]; exact (List.getElem?_eq_some_iff.1 hj).1
    obtain ⟨v, hv, h1⟩ := some_ j hjl
    rw [at_ j hjl, hv] at hj
    obtain rfl := Option.some.inj hj
    exact h1
  · obtain ⟨c, c1, c2, c3⟩ := key j p hp
    have hjn : j < n := by have := (List.getElem?_eq_some_iff.1 hp).1; omega
    have hle : j * d.sz + d.sz ≤ n * d.sz := by
      have := Nat.mul_le_mul_right d.sz (show j + 1 ≤ n by omega)
      rwa [Nat.succ_mul] at this
    have : (news.drop (j * d.sz)).take d.sz = c := by
      apply List.ext_getElem?
      intro i
      rcases Nat.lt_or_ge i d.sz with hi | hi
      · rw [take_drop_get _ _ _ _ hi, at_ _ (by omega)]
        obtain ⟨u, hu⟩ : ∃ u, c[i]? = some u := ⟨_, List.getElem?_eq_getElem (by omega)⟩
        rw [hu, c3 i u hu]
        rfl
      · rw [List.getElem?_eq_none (by rw [List.length_take]; omega), List.getElem?_eq_none (by omega)]
    rw [this]
    exact c2

theorem reps_app {α : Type} {R : α → List Value → Prop} {sz : Nat} {xs ys : List α} {a b : List Value} (h1 : Reps R sz xs a) (h2 : Reps R sz ys b) : Reps R sz (xs ++ ys) (a ++ b) := by
  refine ⟨by rw [List.length_append, List.length_append, h1.1, h2.1, Nat.add_mul], fun j p hp => ?_⟩
  rcases Nat.lt_or_ge j xs.length with h | h
  · rw [List.getElem?_append_left h] at hp
    have hle : j * sz + sz ≤ a.length := by
      rw [h1.1]
      have := Nat.mul_le_mul_right sz (show j + 1 ≤ xs.length by omega)
      rwa [Nat.succ_mul] at this
    have := h1.2 j p hp
    rw [List.drop_append_of_le_length (by omega), List.take_append_of_le_length (by rw [List.length_drop]; omega)]
    exact this
  · rw [List.getElem?_append_right h] at hp
    have := h2.2 (j - xs.length) p hp
    rw [Nat.sub_mul, ← h1.1] at this
    have hge : a.length ≤ j * sz := by rw [h1.1]; exact Nat.mul_le_mul_right sz h
    rw [List.drop_append, List.drop_of_length_le hge, List.nil_append]
    exact this
theorem reps_imp {α : Type} {R R' : α → List Value → Prop} {sz : Nat} {xs : List α} {a : List Value} (h : Reps R sz xs a) (hR : ∀ p c, R p c → R' p c) : Reps R' sz xs a := ⟨h.1, fun j p hp => hR _ _ (h.2 j p hp)⟩

theorem idx_app {l m : List Tp} {i : Nat} {t : Tp} (ht : l[i]? = some t) : ofIdx (l ++ m) t.nm = ofIdx l t.nm := by
  have hself : (fun x : Tp => x.nm.toList == t.nm.toList) t = true := by simp
  unfold ofIdx idxI
  cases h : l.findIdx? (fun x => x.nm.toList == t.nm.toList) with
  | none =>
    rw [List.findIdx?_eq_none_iff] at h
    have := h t (List.mem_of_getElem? ht)
    simp at this
  | some k =>
    rw [List.findIdx?_append, h]
    rfl

theorem one_app {l m : List Tp} {i : Nat} (hi : i < l.length) : oneF (l ++ m) i = oneF l i := by
  obtain ⟨t, ht⟩ : ∃ x, l[i]? = some x := ⟨_, List.getElem?_eq_getElem hi⟩
  have h1 : l.getD i zT = t := by rw [List.getD_eq_getElem?_getD, ht]; rfl
  have h2 : (l ++ m).getD i zT = t := by rw [List.getD_eq_getElem?_getD, List.getElem?_append_left hi, ht]; rfl
  unfold oneF
  rw [h1, h2, idx_app ht]

theorem first_app {l m : List Tp} (h0 : (checkF l).2.2 ≠ 0) (h5 : (checkF l).2.2 ≠ 105) : checkF (l ++ m) = checkF l := by
  unfold checkF at h0 h5 ⊢
  cases hs : seekE (fun i => (oneF l i).2) l.length 0 with
  | none =>
    exfalso
    rw [hs] at h0 h5
    cases hb : seekE (fun i => if badHold l (l.getD i zT) = none then 0 else 1) l.length 0 with
    | none => simp only [hb] at h0; exact h0 rfl
    | some i => simp only [hb] at h5; exact h5 rfl
  | some i =>
    obtain ⟨_, h2, h3, h4⟩ := seekE_some hs
    rw [Nat.zero_add] at h2
    have : seekE (fun i => (oneF (l ++ m) i).2) (l ++ m).length 0 = some i := seekE_of_some (Nat.zero_le i) (by rw [List.length_append]; omega) (by rw [one_app h2]; exact h3) (fun j _ hj => by rw [one_app (by omega)]; exact h4 j (Nat.zero_le j) hj)
    rw [this]
    simp only [one_app h2]

theorem okTps_app {l m : List Tp} (h1 : okTps l = true) (h2 : okTps m = true) (h : l.length + m.length ≤ 1000) : okTps (l ++ m) = true := by
  unfold okTps at *
  rw [Bool.and_eq_true] at h1 h2 ⊢
  refine ⟨by rw [List.length_append]; exact decide_eq_true (by omega), ?_⟩
  rw [List.all_append, h1.2, h2.2]
  rfl

theorem infoTp : (Try.prog.info? 44).map (fun i => (i.zero, i.size, i.bytes)) = some (some (.agg #[.string ⟨#[]⟩, .int .i64 0, .slice none 0 0]), 3, 48) := by kernel_rfl

theorem app_tps {ops : Array Oper} {rest : List Oper} {o : Oper} {a : Act} {Q : Exit → Act → World → Prop} (w W : World) (hgd : o.guard = none) (s x : Operand)
    (ho : o.op = .call { callee := .builtin .append, args := #[s, x], argTypes := #[22, 22] })
    (v : Value) (ps : List Tp) (hs : a.eval s = v) (HO : OwnRow (kT.K w) 44 3 W w.heap.size v ps) (HB : Below w.heap.size w W)
    (A : Option Addr) (n c : Nat) (l : List Tp) (hx : a.eval x = .slice A n c) (hl : l.length = n) (hC : kT.C w A n l) (hA : A = none → c = 0) (hc : n ≤ c) (hb : ps.length + n ≤ 1000)
    (h : ∀ v' w', OwnRow (kT.K w) 44 3 w' w.heap.size v' (ps ++ l) → Below w.heap.size w w' → wpList Try.prog ops Q rest (a.put o.dst v') w') : wpList Try.prog ops Q (o :: rest) a W := by
  obtain ⟨inner, hown, hr⟩ := HO
  obtain ⟨i0, hi, he⟩ := Option.map_eq_some_iff.1 infoTp
  injection he with hz he
  injection he with hsz hby
  cases A with
  | none =>
    obtain rfl := hA rfl
    obtain rfl : n = 0 := by omega
    obtain rfl : l = [] := List.length_eq_zero_iff.1 hl
    exact wpList_append_own_none hgd s x 22 ho w.heap.size 44 i0 3 Try.underlying22 hi v ps.length inner hs hown hx (h v W ⟨inner, by rw [List.append_nil]; exact hown, by rw [List.append_nil]; exact hr⟩ HB)
  | some ad =>
    obtain ⟨news, n1, n2, n3, n4⟩ : ∃ news : List Value, news.length = n * 3 ∧ (∀ j u, news[j]? = some u → w.cell? (ad.add j) = some u) ∧ (∀ u ∈ news, u.oneCell' = true) ∧ Reps (kT.K w) 3 l news := by
      rcases Nat.eq_zero_or_pos n with h0 | h0
      · subst h0
        obtain rfl : l = [] := List.length_eq_zero_iff.1 hl
        exact ⟨[], rfl, fun j u hu => by simp at hu, fun u hu => by simp at hu, Reps.none _ _⟩
      · exact row_cells hC h0
    refine wpList_append_own W hgd s x 22 ho w.heap.size 44 i0 (.agg #[.string ⟨#[]⟩, .int .i64 0, .slice none 0 0]) 3 48 Try.underlying22 hi hz hsz hby rfl (by decide) v ps.length inner hs hown ad n c news hx n1
      (fun j u hu => (World.cell?_of_block (HB.block _ (World.block_lt_of_cell? w _ (n2 j u hu)))).trans (n2 j u hu)) n3 (by unfold maxLen; omega) (by omega) HB.size ?_
    intro v' w' hown' hg' _
    exact h v' w' ⟨inner ++ news, by rw [List.length_append, hl]; exact hown', reps_app hr n4⟩ (HB.grown hg' HB.size (own_base hown))

theorem reads_nil {H : Type} {enc : TypeId × Value → H} {w : World} {base : Nat} {spare : Nat → Bool} {held : Bool} {fuel : Nat} {A : Option Addr} {n c : Nat} {x : DataW H × List MemPlace}
    (h : DataW.trod enc Try.prog w base spare held fuel 22 (Value.slice A n c).cells.toList = some x) : A = none → c = 0 := by
  rcases Go.Deep.open_slice Try.underlying22 h with ⟨e, _⟩ | ⟨a, len, cap, m, k, D, Pl, e, _⟩
  · intro _
    have e' : [Value.slice A n c] = [.slice none 0 0] := e
    injection e' with e' _
    injection e'
  · intro hA
    have e' : [Value.slice A n c] = [.slice (some a) len cap] := e
    injection e' with e' _
    injection e' with e' _ _
    rw [hA] at e'
    cases e'

theorem first_walk (w : World) (A : Option Addr) (n c : Nat) (l : List Tp) (hl : l.length = n) (hc : n ≤ c) (hC : kT.C w A n l) (hrd : rdTps l) (hA : A = none → c = 0)
    (A' : Option Addr) (n' c' : Nat) (m : List Tp) (hl' : m.length = n') (hc' : n' ≤ c') (hC' : kT.C w A' n' m) (hrd' : rdTps m) (hA' : A' = none → c' = 0) :
    Calls Try.prog 8 #[.slice A n c, .slice A' n' c'] w fun e w' => e = .returned (.bool true) ∧ Below w.heap.size w w' := by
  have HLG := hide (Lg.law_large w A c l n hl hC hc hrd)
  have HLM := hide (fun W (hW : Below w.heap.size w W) => Lg.law_large W A' c' m n' hl' (Kd.C_below hC' hW) hc' hrd')
  have HC := hide hC
  have HC' := hide hC'
  have HL := hide hl
  have HL' := hide hl'
  have HA := hide hA
  have HA' := hide hA'
  have HCC := hide hc
  have HCC' := hide hc'
  have HRD := hide hrd
  have HRD' := hide hrd'
  clear hC hC' hl hl' hA hA' hc hc' hrd hrd'
  cases hlg : largeF l with
  | true =>
    rw [hlg] at HLG
    clear hlg
    go_enter Try.func8, Try.ntmps8
    go_wp2_with fail
    refine HLG.out.mono ?_
    rintro e w1 ⟨rfl, hB1⟩
    have HB1 := hide hB1
    clear hB1
    go_wp2_with fail
    refine (law_alive _).mono ?_
    rintro e w2 ⟨rfl, hB2⟩
    go_wp2_with fail
    go_ret
    exact ⟨rfl, bel_trans HB1.out hB2⟩
  | false =>
  rw [hlg] at HLG
  have HS := hide (small_of HRD.out hlg)
  clear hlg
  cases hlm : largeF m with
  | true =>
    rw [hlm] at HLM
    clear hlm
    go_enter Try.func8, Try.ntmps8
    go_wp2_with fail
    refine HLG.out.mono ?_
    rintro e w1 ⟨rfl, hB1⟩
    have HB1 := hide hB1
    clear hB1
    go_wp2_with fail
    refine (HLM.out _ HB1.out).mono ?_
    rintro e w2 ⟨rfl, hB2⟩
    have HB2 := hide (bel_trans HB1.out hB2)
    clear hB2
    go_wp2_with fail
    refine (law_alive _).mono ?_
    rintro e w3 ⟨rfl, hB3⟩
    go_wp2_with fail
    go_ret
    exact ⟨rfl, bel_trans HB2.out hB3⟩
  | false =>
  rw [hlm] at HLM
  have HS' := hide (small_of HRD'.out hlm)
  clear hlm
  have HCK := hide (fun W (hW : Below w.heap.size w W) => ty_check W A c l n HL.out (Kd.C_below HC.out hW) HCC.out HS.out.ok)
  obtain ⟨r1, hr1⟩ : ∃ r, (checkF l).1 = r := ⟨_, rfl⟩
  obtain ⟨r2, hr2⟩ : ∃ r, (checkF l).2.1 = r := ⟨_, rfl⟩
  obtain ⟨r3, hr3⟩ : ∃ r, (checkF l).2.2 = r := ⟨_, rfl⟩
  rw [hr1, hr2, hr3] at HCK
  have HR1 := hide hr1
  have HR2 := hide hr2
  have HR3 := hide hr3
  clear hr1 hr2 hr3
  by_cases hz : r3 = 0 ∨ r3 = 105
  · have d1 : (r3 == 0) = true ∨ ((r3 == 0) = false ∧ (r3 == 105) = true) := by
      rcases hz with rfl | rfl
      · exact .inl rfl
      · exact .inr ⟨rfl, rfl⟩
    clear hz
    rcases d1 with d1 | ⟨d1, d2⟩
    all_goals
      go_enter Try.func8, Try.ntmps8
      go_wp2_with fail
      refine HLG.out.mono ?_
      rintro e w1 ⟨rfl, hB1⟩
      have HB1 := hide hB1
      clear hB1
      go_wp2_with fail
      refine (HLM.out _ HB1.out).mono ?_
      rintro e w2 ⟨rfl, hB2⟩
      have HB2 := hide (bel_trans HB1.out hB2)
      clear hB2
      go_wp2_with fail
      refine (HCK.out _ HB2.out).mono ?_
      rintro e w3 ⟨rfl, hB3⟩
      have HB3 := hide (bel_trans HB2.out hB3)
      clear hB3
      go_wp2_with fail
      refine (law_alive _).mono ?_
      rintro e w4 ⟨rfl, hB4⟩
      go_wp2_with fail
      go_ret
      exact ⟨rfl, bel_trans HB3.out hB4⟩
  have d1 : (r3 == 0) = false := beq_eq_false_iff_ne.2 (fun e => hz (.inl e))
  have d2 : (r3 == 105) = false := beq_eq_false_iff_ne.2 (fun e => hz (.inr e))
  have HFA : Hid (checkF (l ++ m) = checkF l) := hide (first_app (by rw [HR3.out]; exact fun e => hz (.inl e)) (by rw [HR3.out]; exact fun e => hz (.inr e)))
  clear hz
  go_enter Try.func8, Try.ntmps8
  go_wp2_with fail
  refine HLG.out.mono ?_
  rintro e w1 ⟨rfl, hB1⟩
  have HB1 := hide hB1
  clear hB1
  go_wp2_with fail
  refine (HLM.out _ HB1.out).mono ?_
  rintro e w2 ⟨rfl, hB2⟩
  have HB2 := hide (bel_trans HB1.out hB2)
  clear hB2
  go_wp2_with fail
  refine (HCK.out _ HB2.out).mono ?_
  rintro e w3 ⟨rfl, hB3⟩
  have HB3 := hide (bel_trans HB2.out hB3)
  clear hB3 HB1 HB2 HLG HLM HCK
  have HOK := hide (okTps_app HS.out.ok HS'.out.ok (by have := HS.out.len; have := HS'.out.len; omega))
  have HN1 : Hid (([] : List Tp).length + n ≤ 1000) := hide (by have := HS.out.len; have := HL.out; simp; omega)
  have HN2 : Hid (([] ++ l : List Tp).length + n' ≤ 1000) := hide (by have := HS.out.len; have := HS'.out.len; have := HL.out; have := HL'.out; simp; omega)
  have HO0 : Hid (OwnRow (kT.K w) 44 3 (w3.alloc (.cells #[] 44)) w.heap.size (.slice (some ⟨w3.heap.size, 0, none⟩) 0 0) []) := hide ⟨[], World.ownsRow_made w3 #[] 0 HB3.out.size (by unfold maxLen; omega) rfl, Reps.none _ _⟩
  have HB0 : Hid (Below w.heap.size w (w3.alloc (.cells #[] 44))) := hide (HB3.out.alloc HB3.out.size _)
  go_wp2_with (first
    | (at_builtin; refine app_tps w _ rfl (.tmp 32) (.tmp 33) rfl _ [] rfl HO0.out HB0.out A n c l rfl HL.out HC.out HA.out HCC.out HN1.out ?_; intro v4 w4 hO4 hB4; have HO4 := hide hO4; have HB4 := hide hB4; clear hO4 hB4)
    | (at_builtin; refine app_tps w _ rfl (.tmp 34) (.tmp 35) rfl _ _ rfl HO4.out HB4.out A' n' c' m rfl HL'.out HC'.out HA'.out HCC'.out HN2.out ?_; intro v5 w5 hO5 hB5; have HB5 := hide hB5; obtain ⟨A5, c5, hv5, hle5, hrow5⟩ := hO5.reads; obtain ⟨N, hN⟩ : ∃ N, ([] ++ l ++ m : List Tp).length = N := ⟨_, rfl⟩; rw [hN] at hv5 hle5 hrow5; subst hv5; have HC5 : Hid (kT.C w5 A5 N ([] ++ l ++ m)) := hide (ReadsRow.imp_ hrow5 (Below.refl _ _) (fun _ _ h => kT.K_below HB5.out h)); clear hO5 hB5 hrow5; have HN := hide hN; have HLE := hide hle5; clear hN hle5))
  have HCK2 := ty_check w5 A5 c5 ([] ++ l ++ m) N HN.out HC5.out HLE.out (by rw [List.nil_append]; exact HOK.out)
  rw [List.nil_append, HFA.out, HR1.out, HR2.out, HR3.out] at HCK2
  refine HCK2.mono ?_
  rintro e w6 ⟨rfl, hB6⟩
  have HB6 := hide (bel_trans HB5.out hB6)
  clear hB6
  go_wp2_with fail
  refine (law_alive _).mono ?_
  rintro e w7 ⟨rfl, hB7⟩
  go_wp2_with fail
  go_ret
  exact ⟨rfl, bel_trans HB6.out hB7⟩
end Go.Proofs.Ytkflofjcjolehaa
