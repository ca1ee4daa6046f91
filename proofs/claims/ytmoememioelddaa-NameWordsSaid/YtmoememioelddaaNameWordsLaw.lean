import Derived.Test.YtmoememioelddaaNameJoin
import Derived.Test.YtmoememioelddaaHNameTellsx3
/-! The law NameWords, walked. -/
namespace Go.Proofs.Ytmoememioelddaa
open Go.RowKit Go.Proofs.YtmoememioelddaaW.PrintWords Go.Proofs.YtmoememioelddaaW.PrintLast
set_option maxHeartbeats 8000000
set_option maxRecDepth 100000

theorem law_alive (w : World) : Calls Try.prog 9 #[] w fun e w' => e = .returned (.bool true) ∧ Below w.heap.size w w' :=
  HNameTells.wardenlaw09_alive.calls true w (by decide +kernel)

/-- The texts l stand at A. -/
def Strs (w : World) (A : Option Addr) (l : List ByteArray) : Prop := l = [] ∨ ∃ b, A = some ⟨b, 0, none⟩ ∧ b < w.heap.size ∧ ∀ i t, l[i]? = some t → w.cell? ⟨b, i, none⟩ = some (.string t)

theorem Strs.below {w w' : World} {A : Option Addr} {l : List ByteArray} (h : Strs w A l) (hb : Below w.heap.size w w') : Strs w' A l := by
  rcases h with h | ⟨b, h1, h2, h3⟩
  · exact .inl h
  · exact .inr ⟨b, h1, Nat.lt_of_lt_of_le h2 hb.size, fun i t ht => (hb.cell (p := ⟨b, i, none⟩) h2).trans (h3 i t ht)⟩

theorem Strs.of_own {w : World} {base e : Nat} {A : Option Addr} {n c : Nat} {l : List ByteArray} (h : w.ownsRow base e 1 (.slice A n c) l.length (l.map Value.string)) : Strs w A l ∧ n = l.length ∧ l.length ≤ c := by
  obtain ⟨h1, h2⟩ := id h
  rcases h2 with ⟨hv, h0⟩ | ⟨g, cap, cur, hv, hg, hc, hn, hm, hs, ht⟩
  · injection hv with a b c
    subst a b c
    have : l = [] := List.eq_nil_of_length_eq_zero h0
    exact ⟨.inl this, h0.symm, by omega⟩
  · injection hv with a b c
    subst a b c
    refine ⟨?_, rfl, hn⟩
    by_cases h0 : l = []
    · exact .inl h0
    · refine .inr ⟨g, rfl, (Array.getElem?_eq_some_iff.1 hc).1, fun i t hi => ?_⟩
      have hil := (List.getElem?_eq_some_iff.1 hi).1
      rw [World.ownsRow.cellAt h i (by omega), List.getElem?_map, hi]
      rfl

theorem Strs.c {w : World} {A : Option Addr} {l : List ByteArray} (h : Strs w A l) (hl : l.length ≤ 9223372036854775807) : Kd.C Kd.string w A l.length l := by
  refine ⟨rfl, hl, fun hp => ?_⟩
  rcases h with h | ⟨b, h1, h2, h3⟩
  · rw [h] at hp; simp at hp
  · refine ⟨⟨b, 0, none⟩, h1, fun j t hj => ⟨[.string t], rfl, rfl, fun i u hu => ?_⟩⟩
    cases i with
    | zero =>
      simp at hu
      subst hu
      have := h3 j t hj
      show w.cell? (Addr.add ⟨b, 0, none⟩ (j * 1 + 0)) = _
      have e : Addr.add ⟨b, 0, none⟩ (j * 1 + 0) = ⟨b, j, none⟩ := by
        unfold Addr.add
        split
        · rename_i h0
          have : j = 0 := by omega
          subst this
          rfl
        · simp
      rw [e]
      exact this
    | succ i => simp at hu

theorem lists_f (l m : List ByteArray) (hl : l.length ≤ 1000000) : Ev (fun k => HNameTells.wardenlaw09_lists.f k l m) (decide (l = m)) := by
  by_cases hlen : l.length = m.length
  · have key : ∀ n i, l.length - i = n → i ≤ l.length → Ev (fun k => HNameTells.wardenlaw09_lists.l0 k l m (i : Int)) (decide (l.drop i = m.drop i)) := by
      intro n
      induction n with
      | zero =>
        intro i hn hi
        refine ⟨1, fun k hk => ?_⟩
        obtain ⟨k, rfl⟩ : ∃ m, k = m + 1 := ⟨k - 1, by omega⟩
        simp only [HNameTells.wardenlaw09_lists.l0]
        rw [if_neg (by omega), List.drop_of_length_le (by omega), List.drop_of_length_le (by omega)]
        rfl
      | succ n ih =>
        intro i hn hi
        have h1 : i < l.length := by omega
        have h2 : i < m.length := by omega
        obtain ⟨K, hK⟩ := ih (i + 1) (by omega) (by omega)
        refine ⟨K + 1, fun k hk => ?_⟩
        obtain ⟨k, rfl⟩ : ∃ m, k = m + 1 := ⟨k - 1, by omega⟩
        have hK : HNameTells.wardenlaw09_lists.l0 k l m ((i + 1 : Nat) : Int) = some (decide (l.drop (i + 1) = m.drop (i + 1))) := hK k (by omega)
        simp only [HNameTells.wardenlaw09_lists.l0]
        have e1 : rdOf ByteArray.empty l (i : Int) = l[i] := by
          unfold rdOf
          show l.getD i _ = _
          rw [List.getD_eq_getElem?_getD, List.getElem?_eq_getElem h1]
          rfl
        have e2 : rdOf ByteArray.empty m (i : Int) = m[i] := by
          unfold rdOf
          show m.getD i _ = _
          rw [List.getD_eq_getElem?_getD, List.getElem?_eq_getElem h2]
          rfl
        rw [if_pos (by omega), if_pos (by omega), if_pos (by omega), e1, e2, show wrap64 ((i : Int) + 1) = ((i + 1 : Nat) : Int) by unfold wrap64; omega, hK]
        rw [List.drop_eq_getElem_cons h1, List.drop_eq_getElem_cons h2]
        by_cases e : l[i] = m[i]
        · rw [if_pos (by rw [e]), e]
          congr 1
          rw [decide_eq_decide, List.cons.injEq]
          exact ⟨fun h => ⟨rfl, h⟩, fun h => h.2⟩
        · have : ¬ (l[i]).toList = (m[i]).toList := fun q => e (by
            rw [ByteArray.toList_eq, ByteArray.toList_eq] at q
            exact ByteArray.ext (Array.toList_inj.1 q))
          rw [if_neg this]
          congr 1
          symm
          rw [decide_eq_false_iff_not, List.cons.injEq]
          exact fun h => e h.1
    refine Ev.congr (f := fun k => HNameTells.wardenlaw09_lists.l0 k l m 0) (fun k => ?_) (key _ 0 rfl (by omega))
    unfold HNameTells.wardenlaw09_lists.f
    rw [if_pos (by omega)]
  · refine ⟨0, fun k _ => ?_⟩
    show HNameTells.wardenlaw09_lists.f k l m = _
    unfold HNameTells.wardenlaw09_lists.f
    rw [if_neg (by omega), decide_eq_false (fun h => hlen (by rw [h]))]

theorem law_lists (w : World) (A B : Option Addr) (l m : List ByteArray) (n1 c1 n2 c2 : Nat) (hl : l.length ≤ 1000000) (hm : m.length ≤ 1000000) (e1 : n1 = l.length) (e2 : n2 = m.length) (h1 : Strs w A l) (h2 : Strs w B m) (k1 : l.length ≤ c1) (k2 : m.length ≤ c2) :
    Calls Try.prog 14 #[.slice A n1 c1, .slice B n2 c2] w fun e w' => e = .returned (.bool (decide (l = m))) ∧ Below w.heap.size w w' := by
  subst e1 e2
  obtain ⟨k, hk⟩ := Ev.rounds (lists_f l m hl)
  refine (HNameTells.wardenlaw09_lists.calls k A c1 l B c2 m _ w (h1.c (by omega)) k1 (h2.c (by omega)) k2 hk).mono fun e w' ⟨he, hd⟩ => ⟨he, hd.below⟩

theorem slice_of_own {w : World} {base e : Nat} {v : Value} {l : List ByteArray} (h : w.ownsRow base e 1 v l.length (l.map Value.string)) : ∃ A n c, v = .slice A n c ∧ Strs w A l ∧ n = l.length ∧ l.length ≤ c := by
  rcases id h.2 with ⟨rfl, h0⟩ | ⟨g, cap, cur, rfl, _⟩
  · exact ⟨none, 0, 0, rfl, Strs.of_own h⟩
  · exact ⟨_, _, _, rfl, Strs.of_own h⟩

theorem below_from {w1 wr y : World} (h : Below w1.heap.size w1 wr) (k : Below wr.heap.size wr y) : Below w1.heap.size w1 y := h.trans (k.mono h.size)
theorem below_end {w w1 y : World} (h : Below w.heap.size w w1) (k : Below w1.heap.size w1 y) : Below w.heap.size w y := h.trans (k.mono h.size)
theorem two_at (w : World) (a b : ByteArray) : ∀ i t, [a, b][i]? = some t → (w.alloc (.cells #[.string a, .string b] 9)).cell? ⟨w.heap.size, i, none⟩ = some (.string t) := by
  intro i t h
  rw [(Has.new w 9 _).cell i]
  match i, h with
  | 0, h => simp at h; subst h; rfl
  | 1, h => simp at h; subst h; rfl
theorem one_at (w : World) (a : ByteArray) : ∀ i t, [a][i]? = some t → (w.alloc (.cells #[.string a] 9)).cell? ⟨w.heap.size, i, none⟩ = some (.string t) := by
  intro i t h
  rw [(Has.new w 9 _).cell i]
  match i, h with
  | 0, h => simp at h; subst h; rfl

theorem strs_zero {w : World} {A : Option Addr} {l : List ByteArray} {t : ByteArray} (h : Strs w A l) (ht : l[0]? = some t) : ∃ g, A = some ⟨g, 0, none⟩ ∧ g < w.heap.size ∧ w.cell? ⟨g, 0, none⟩ = some (.string t) := by
  rcases h with h | ⟨b, h1, h2, h3⟩
  · rw [h] at ht; simp at ht
  · exact ⟨b, h1, h2, h3 0 t ht⟩

theorem toList_ne {a b : ByteArray} (h : a ≠ b) : (a.toList == b.toList) = false := by
  rw [beq_eq_false_iff_ne]
  intro q
  rw [ByteArray.toList_eq, ByteArray.toList_eq] at q
  exact h (ByteArray.ext (Array.toList_inj.1 q))

theorem size_le_sum (l : List ByteArray) : ∀ t ∈ l, t.size ≤ (l.map fun t => t.size).sum := by
  induction l with
  | nil => intro t ht; cases ht
  | cons x l ih =>
    intro t ht
    rw [List.map_cons, List.sum_cons]
    rcases List.mem_cons.1 ht with rfl | ht
    · omega
    · have := ih t ht
      omega

theorem name_words_walk (w : World) (a : ByteArray) (wa : a.size ≤ maxLen) (b : ByteArray) (wb : b.size ≤ maxLen) (s : ByteArray) (wc : s.size ≤ maxLen) :
    Calls Try.prog 6 #[.string a, .string b, .string s] w fun e w' => e = .returned (.bool true) ∧ Below w.heap.size w w' := by
  unfold maxLen at wa wb wc
  by_cases h1 : 2048 < a.size
  · have d1 : decide ((2048 : Int) < (a.size : Int)) = true := decide_eq_true (by omega)
    go_enter Try.func6, Try.ntmps6
    go_wp2_with fail
    refine (law_alive _).mono ?_
    rintro e w1 ⟨rfl, hb⟩
    go_wp2_with fail
    go_ret
    exact ⟨rfl, hb⟩
  · have d1 : decide ((2048 : Int) < (a.size : Int)) = false := decide_eq_false (by omega)
    by_cases h2 : 2048 < b.size
    · have d2 : decide ((2048 : Int) < (b.size : Int)) = true := decide_eq_true (by omega)
      go_enter Try.func6, Try.ntmps6
      go_wp2_with fail
      refine (law_alive _).mono ?_
      rintro e w1 ⟨rfl, hb⟩
      go_wp2_with fail
      go_ret
      exact ⟨rfl, hb⟩
    · have d2 : decide ((2048 : Int) < (b.size : Int)) = false := decide_eq_false (by omega)
      by_cases h3 : 4096 < s.size
      · have d3 : decide ((4096 : Int) < (s.size : Int)) = true := decide_eq_true (by omega)
        go_enter Try.func6, Try.ntmps6
        go_wp2_with fail
        refine (law_alive _).mono ?_
        rintro e w1 ⟨rfl, hb⟩
        go_wp2_with fail
        go_ret
        exact ⟨rfl, hb⟩
      · have d3 : decide ((4096 : Int) < (s.size : Int)) = false := decide_eq_false (by omega)
        have hmay : ∀ t ∈ nameWords s, nameMay t = true := words_may
        have hcount : (nameWords s).length ≤ s.size + 1 := by
          unfold nameWords
          split
          · simp
          · exact Nat.le_trans (List.length_filter_le _ _) (fields_length noWord s)
        have htot := words_total s
        have CS : ∀ w, Calls Try.prog 15 #[.string s] w fun e w' => ∃ v, e = .returned v ∧ w'.ownsRow w.heap.size 9 1 v (nameWords s).length ((nameWords s).map Value.string) ∧ Below w.heap.size w w' := fun w => name_words w s (by omega)
        have hse : s = a → nameWords s = nameWords a := fun h => by rw [h]
        obtain ⟨l, hl⟩ : ∃ l, nameWords s = l := ⟨_, rfl⟩
        rw [hl] at hmay hcount htot CS hse
        have hjs : (joinW l).size ≤ 4294967296 := by rw [joinW_size]; omega
        have CJ := hide (fun w => name_words w (joinW l) hjs)
        rw [words_join l hmay] at CJ
        have CSH := hide CS
        have HL6 : Hid (l.length ≤ 1000000) := hide (by omega)
        have hm4 : ∀ t ∈ l, t.size ≤ 4096 := fun t ht => by
          have := size_le_sum l t ht
          omega
        have hjk : ∀ k, (joinW (l.take k)).size ≤ 10000 := fun k => by
          rw [joinW_size]
          have h1 := sum_take l k
          have h2 := List.length_take_le k l
          have h3 := List.length_take_le' k l
          omega
        have HALL := hide (And.intro hmay (And.intro hm4 hjk))
        have HSE := hide hse
        have HLL := hide hl
        obtain ⟨q, hq⟩ : ∃ q, nameMay a = q := ⟨_, rfl⟩
        obtain ⟨qb, hqb⟩ : ∃ q, nameMay b = q := ⟨_, rfl⟩
        have CA := hide (fun w => hq ▸ name_may w a (by omega))
        have CB := hide (fun w => hqb ▸ name_may w b (by omega))
        have CP : Hid (q = true → qb = true → ∀ w, Calls Try.prog 15 #[.string (a ++ blankS ++ b)] w fun e w' => ∃ v, e = .returned v ∧ w'.ownsRow w.heap.size 9 1 v [a, b].length ([a, b].map Value.string) ∧ Below w.heap.size w w') := hide (fun h1 h2 w => by
          rw [← words_pair (hq.trans h1) (hqb.trans h2)]
          exact name_words w _ (by rw [ByteArray.size_append, ByteArray.size_append]; show a.size + 1 + b.size ≤ _; omega))
        have CW := hide (fun w => name_words w a (by omega))
        have HWL : Hid ((nameWords a).length ≤ 1000000) := hide (by
          have : (nameWords a).length ≤ a.size + 1 := by
            unfold nameWords
            split
            · simp
            · exact Nat.le_trans (List.length_filter_le _ _) (fields_length noWord a)
          omega)
        have WE : Hid (decide (nameWords a = [a]) = q) := hide (by
          cases hqq : q with
          | true => exact decide_eq_true (words_one (hq.trans hqq))
          | false => exact decide_eq_false (words_not (hq.trans hqq)))
        have HQ := hide (And.intro hq hqb)
        clear hmay hcount htot CS hse hl hjs hm4 hjk hq hqb
        go_enter Try.func6, Try.ntmps6
        go_wp2_with fail
        refine (CSH.out _).mono ?_
        rintro e w1 ⟨v, rfl, ho, hb⟩
        have HB0 := hide hb
        obtain ⟨A, N, c, rfl, sl, ln1, ln2⟩ := slice_of_own ho
        have SL := hide sl
        have LN := hide (And.intro ln1 ln2)
        have hN : N ≤ 1000000 := by rw [ln1]; exact HL6.out
        clear hb ho sl ln1 ln2
        go_wp2_with fail
        go_loopw [8, 9] (fun al i wr => ∃ k : Nat, k ≤ N ∧ i = .int .i64 k ∧ al = .string (joinW (l.take k)) ∧ Below w1.heap.size w1 wr) (fun _ i _ => N - (intOf i).toNat)
        case atStart => exact ⟨0, by omega, rfl, rfl, Below.refl _ _⟩
        case round =>
          obtain ⟨k, hk, rfl, rfl, hB⟩ := hrel
          by_cases hlt : k < N
          · obtain ⟨t, ht⟩ : ∃ t, l[k]? = some t := ⟨_, List.getElem?_eq_getElem (by rw [← LN.out.1]; exact hlt)⟩
            have hcells : ∃ g, A = some ⟨g, 0, none⟩ ∧ wr.cell? ⟨g, k, none⟩ = some (.string t) := by
              rcases SL.out with h | ⟨g, h1, h2, h3⟩
              · rw [h] at ht; simp at ht
              · exact ⟨g, h1, (hB.cell (p := ⟨g, k, none⟩) h2).trans (h3 k t ht)⟩
            obtain ⟨g, rfl, e0⟩ := hcells
            have htm := List.mem_of_getElem? ht
            have CM := hide (fun w => HALL.out.1 t htm ▸ name_may w t (by have := HALL.out.2.1 t htm; omega))
            have s1 : t.size ≤ 4096 := HALL.out.2.1 t htm
            have s2 : (joinW (l.take k)).size ≤ 10000 := HALL.out.2.2 k
            have htk : joinW (l.take (k + 1)) = joinW (l.take k) ++ t ++ blankS := by
              rw [List.take_add_one, ht]
              exact joinW_snoc _ _
            have HTK := hide htk
            clear ht htm htk
            obtain ⟨J, hJ⟩ : ∃ J, joinW (l.take k) = J := ⟨_, rfl⟩
            rw [hJ] at HTK s2
            rw [hJ]
            clear hJ
            have HHB := hide hB
            clear hB
            go_wp2_with fail
            refine (CM.out _).mono ?_
            rintro e w2 ⟨rfl, hb⟩
            have hB2 := below_from HHB.out hb
            have e1 : w2.cell? ⟨g, k, none⟩ = some (.string t) := (hb.cell (p := ⟨g, k, none⟩) (World.block_lt_of_cell? wr _ e0)).trans e0
            have HB2 := hide hB2
            clear hb hB2
            go_wp2_with fail
            go_roundw
            case rel =>
              refine ⟨k + 1, by omega, by go_num, ?_, HB2.out⟩
              rw [HTK.out]
              rfl
            case measure => simp [intOf]; omega
          · obtain rfl : k = N := by omega
            rw [List.take_of_length_le (by rw [LN.out.1]; exact Nat.le_refl _)]
            have HB := hide hB
            have BY0 := hide (Below.refl wr.heap.size wr)
            clear hB
            obtain ⟨J, hJ⟩ : ∃ J, joinW l = J := ⟨_, rfl⟩
            rw [hJ] at CJ
            rw [hJ]
            clear hJ
            cases q with
            | true =>
              have ha0 : a.toList ≠ ([] : List UInt8) := fun h => by
                have : a = ⟨#[]⟩ := ByteArray.ext (Array.toList_inj.1 (by rw [← ByteArray.toList_eq]; exact h))
                have h2 := HQ.out.1
                rw [this] at h2
                exact absurd h2 (by decide +kernel)
              have ae : a.toList.isEmpty = false := by simpa using ha0
              have HA0 := hide ha0
              clear ha0
              by_cases hs : s = a
              · have hl1 : l = [a] := (HSE.out hs).trans (of_decide_eq_true WE.out)
                have hk1 : k = 1 := by rw [LN.out.1, hl1]; rfl
                have n1 : ((k : Int) == 1) = true := by rw [hk1]; rfl
                have kp : 0 < k := by omega
                obtain ⟨g, rfl, e0⟩ := strs_zero SL.out (t := a) (by rw [hl1]; rfl)
                have HE0 := hide e0
                have HS := hide hs
                have HK1 := hide hk1
                clear hs hl1 hk1 e0
                have sa : (s.toList == a.toList) = true := by rw [HS.out]; simp
                cases qb with
                | true =>
                  go_wp2_with fail
                  refine (CJ.out _).mono ?_
                  rintro e y1 ⟨v1, rfl, ho, hb⟩
                  have BY1 := hide (BY0.out.trans (hb.mono BY0.out.size))
                  obtain ⟨A1, n1, c1, rfl, S1, L1, C1⟩ := slice_of_own ho
                  have SY1 := hide S1
                  have LY1 := hide (And.intro L1 C1)
                  clear hb ho S1 L1 C1
                  go_wp2_with fail
                  refine (law_lists _ _ _ l l _ _ _ _ HL6.out HL6.out LY1.out.1 LN.out.1 SY1.out (SL.out.below (below_from HB.out BY1.out)) LY1.out.2 LN.out.2).mono ?_
                  rintro e y2 ⟨rfl, hb⟩
                  have BY2 := hide (BY1.out.trans (hb.mono BY1.out.size))
                  clear hb
                  go_wp2_with fail
                  refine (CA.out _).mono ?_
                  rintro e y3 ⟨rfl, hb⟩
                  have BY3 := hide (BY2.out.trans (hb.mono BY2.out.size))
                  clear hb
                  go_wp2_with fail
                  refine (CB.out _).mono ?_
                  rintro e y4 ⟨rfl, hb⟩
                  have BY4 := hide (BY3.out.trans (hb.mono BY3.out.size))
                  clear hb
                  go_wp2_with fail
                  refine (CP.out (by simp) (by simp) _).mono ?_
                  rintro e y5 ⟨v5, rfl, ho, hb⟩
                  have BY5 := hide (BY4.out.trans (hb.mono BY4.out.size))
                  obtain ⟨A5, n5, c5, rfl, S5, L5, C5⟩ := slice_of_own ho
                  have SY5 := hide S5
                  have LY5 := hide (And.intro L5 C5)
                  clear hb ho S5 L5 C5
                  go_wp2_with fail
                  refine (law_lists _ _ _ [a, b] [a, b] _ _ _ _ (by simp) (by simp) LY5.out.1 rfl (SY5.out.below ((Below.refl _ _).alloc (Nat.le_refl _) _)) (.inr ⟨_, rfl, by simp, two_at _ a b⟩) LY5.out.2 (by simp)).mono ?_
                  rintro e y6 ⟨rfl, hb⟩
                  have BY6 := hide ((BY5.out.alloc BY5.out.size _).trans (hb.mono (by have := BY5.out.size; simp; omega)))
                  clear hb
                  have e0 : y6.cell? ⟨g, 0, none⟩ = some (.string a) := (BY6.out.cell (p := ⟨g, 0, none⟩) (Nat.lt_of_lt_of_le HE0.out.1 HB.out.size)).trans ((HB.out.cell (p := ⟨g, 0, none⟩) HE0.out.1).trans HE0.out.2)
                  go_wp2_with fail
                  refine (CA.out _).mono ?_
                  rintro e y7 ⟨rfl, hb⟩
                  have BY7 := hide (BY6.out.trans (hb.mono BY6.out.size))
                  clear hb
                  go_wp2_with fail
                  refine (CA.out _).mono ?_
                  rintro e y8 ⟨rfl, hb⟩
                  have BY8 := hide (BY7.out.trans (hb.mono BY7.out.size))
                  clear hb
                  go_wp2_with fail
                  refine (CW.out _).mono ?_
                  rintro e y9 ⟨v9, rfl, ho, hb⟩
                  have BY9 := hide (BY8.out.trans (hb.mono BY8.out.size))
                  obtain ⟨A9, n9, c9, rfl, S9, L9, C9⟩ := slice_of_own ho
                  have SY9 := hide S9
                  have LY9 := hide (And.intro L9 C9)
                  clear hb ho S9 L9 C9
                  go_wp2_with fail
                  refine (law_lists _ _ _ (nameWords a) [a] _ _ _ _ HWL.out (by simp) LY9.out.1 rfl (SY9.out.below ((Below.refl _ _).alloc (Nat.le_refl _) _)) (.inr ⟨_, rfl, by simp, one_at _ a⟩) LY9.out.2 (by simp)).mono ?_
                  rw [WE.out]
                  rintro e y10 ⟨rfl, hb⟩
                  have BY10 := hide ((BY9.out.alloc BY9.out.size _).trans (hb.mono (by have := BY9.out.size; simp; omega)))
                  clear hb
                  go_wp2_with fail
                  refine (law_alive _).mono ?_
                  rintro e y11 ⟨rfl, hb⟩
                  have BY11 := hide (BY10.out.trans (hb.mono BY10.out.size))
                  clear hb
                  go_wp2_with fail
                  go_ret
                  exact ⟨rfl, below_end HB0.out (below_from HB.out BY11.out)⟩
                | false =>
                  go_wp2_with fail
                  refine (CJ.out _).mono ?_
                  rintro e y1 ⟨v1, rfl, ho, hb⟩
                  have BY1 := hide (BY0.out.trans (hb.mono BY0.out.size))
                  obtain ⟨A1, n1, c1, rfl, S1, L1, C1⟩ := slice_of_own ho
                  have SY1 := hide S1
                  have LY1 := hide (And.intro L1 C1)
                  clear hb ho S1 L1 C1
                  go_wp2_with fail
                  refine (law_lists _ _ _ l l _ _ _ _ HL6.out HL6.out LY1.out.1 LN.out.1 SY1.out (SL.out.below (below_from HB.out BY1.out)) LY1.out.2 LN.out.2).mono ?_
                  rintro e y2 ⟨rfl, hb⟩
                  have BY2 := hide (BY1.out.trans (hb.mono BY1.out.size))
                  clear hb
                  go_wp2_with fail
                  refine (CA.out _).mono ?_
                  rintro e y3 ⟨rfl, hb⟩
                  have BY3 := hide (BY2.out.trans (hb.mono BY2.out.size))
                  clear hb
                  go_wp2_with fail
                  refine (CB.out _).mono ?_
                  rintro e y4 ⟨rfl, hb⟩
                  have BY4 := hide (BY3.out.trans (hb.mono BY3.out.size))
                  clear hb
                  have e0 : y4.cell? ⟨g, 0, none⟩ = some (.string a) := (BY4.out.cell (p := ⟨g, 0, none⟩) (Nat.lt_of_lt_of_le HE0.out.1 HB.out.size)).trans ((HB.out.cell (p := ⟨g, 0, none⟩) HE0.out.1).trans HE0.out.2)
                  go_wp2_with fail
                  refine (CA.out _).mono ?_
                  rintro e y5 ⟨rfl, hb⟩
                  have BY5 := hide (BY4.out.trans (hb.mono BY4.out.size))
                  clear hb
                  go_wp2_with fail
                  refine (CA.out _).mono ?_
                  rintro e y6 ⟨rfl, hb⟩
                  have BY6 := hide (BY5.out.trans (hb.mono BY5.out.size))
                  clear hb
                  go_wp2_with fail
                  refine (CW.out _).mono ?_
                  rintro e y7 ⟨v7, rfl, ho, hb⟩
                  have BY7 := hide (BY6.out.trans (hb.mono BY6.out.size))
                  obtain ⟨A7, n7, c7, rfl, S7, L7, C7⟩ := slice_of_own ho
                  have SY7 := hide S7
                  have LY7 := hide (And.intro L7 C7)
                  clear hb ho S7 L7 C7
                  go_wp2_with fail
                  refine (law_lists _ _ _ (nameWords a) [a] _ _ _ _ HWL.out (by simp) LY7.out.1 rfl (SY7.out.below ((Below.refl _ _).alloc (Nat.le_refl _) _)) (.inr ⟨_, rfl, by simp, one_at _ a⟩) LY7.out.2 (by simp)).mono ?_
                  rw [WE.out]
                  rintro e y8 ⟨rfl, hb⟩
                  have BY8 := hide ((BY7.out.alloc BY7.out.size _).trans (hb.mono (by have := BY7.out.size; simp; omega)))
                  clear hb
                  go_wp2_with fail
                  refine (law_alive _).mono ?_
                  rintro e y9 ⟨rfl, hb⟩
                  have BY9 := hide (BY8.out.trans (hb.mono BY8.out.size))
                  clear hb
                  go_wp2_with fail
                  go_ret
                  exact ⟨rfl, below_end HB0.out (below_from HB.out BY9.out)⟩
              · have sa : (s.toList == a.toList) = false := toList_ne hs
                have HS := hide hs
                clear hs
                by_cases hk1 : k = 1
                · have n1 : ((k : Int) == 1) = true := by rw [hk1]; rfl
                  have kp : 0 < k := by omega
                  obtain ⟨t0, hl1⟩ : ∃ t0, l = [t0] := List.length_eq_one_iff.1 (by rw [← LN.out.1]; exact hk1)
                  obtain ⟨g, rfl, e0⟩ := strs_zero SL.out (t := t0) (by rw [hl1]; rfl)
                  have HE0 := hide e0
                  have HK1 := hide (And.intro hk1 hl1)
                  clear hk1 hl1 e0
                  by_cases ht : t0 = a
                  · subst ht
                    cases qb with
                    | true =>
                      go_wp2_with fail
                      refine (CJ.out _).mono ?_
                      rintro e y1 ⟨v1, rfl, ho, hb⟩
                      have BY1 := hide (BY0.out.trans (hb.mono BY0.out.size))
                      obtain ⟨A1, n1, c1, rfl, S1, L1, C1⟩ := slice_of_own ho
                      have SY1 := hide S1
                      have LY1 := hide (And.intro L1 C1)
                      clear hb ho S1 L1 C1
                      go_wp2_with fail
                      refine (law_lists _ _ _ l l _ _ _ _ HL6.out HL6.out LY1.out.1 LN.out.1 SY1.out (SL.out.below (below_from HB.out BY1.out)) LY1.out.2 LN.out.2).mono ?_
                      rintro e y2 ⟨rfl, hb⟩
                      have BY2 := hide (BY1.out.trans (hb.mono BY1.out.size))
                      clear hb
                      go_wp2_with fail
                      refine (CA.out _).mono ?_
                      rintro e y3 ⟨rfl, hb⟩
                      have BY3 := hide (BY2.out.trans (hb.mono BY2.out.size))
                      clear hb
                      go_wp2_with fail
                      refine (CB.out _).mono ?_
                      rintro e y4 ⟨rfl, hb⟩
                      have BY4 := hide (BY3.out.trans (hb.mono BY3.out.size))
                      clear hb
                      go_wp2_with fail
                      refine (CP.out (by simp) (by simp) _).mono ?_
                      rintro e y5 ⟨v5, rfl, ho, hb⟩
                      have BY5 := hide (BY4.out.trans (hb.mono BY4.out.size))
                      obtain ⟨A5, n5, c5, rfl, S5, L5, C5⟩ := slice_of_own ho
                      have SY5 := hide S5
                      have LY5 := hide (And.intro L5 C5)
                      clear hb ho S5 L5 C5
                      go_wp2_with fail
                      refine (law_lists _ _ _ [t0, b] [t0, b] _ _ _ _ (by simp) (by simp) LY5.out.1 rfl (SY5.out.below ((Below.refl _ _).alloc (Nat.le_refl _) _)) (.inr ⟨_, rfl, by simp, two_at _ t0 b⟩) LY5.out.2 (by simp)).mono ?_
                      rintro e y6 ⟨rfl, hb⟩
                      have BY6 := hide ((BY5.out.alloc BY5.out.size _).trans (hb.mono (by have := BY5.out.size; simp; omega)))
                      clear hb
                      have e0 : y6.cell? ⟨g, 0, none⟩ = some (.string t0) := (BY6.out.cell (p := ⟨g, 0, none⟩) (Nat.lt_of_lt_of_le HE0.out.1 HB.out.size)).trans ((HB.out.cell (p := ⟨g, 0, none⟩) HE0.out.1).trans HE0.out.2)
                      go_wp2_with fail
                      refine (CA.out _).mono ?_
                      rintro e y7 ⟨rfl, hb⟩
                      have BY7 := hide (BY6.out.trans (hb.mono BY6.out.size))
                      clear hb
                      go_wp2_with fail
                      refine (CA.out _).mono ?_
                      rintro e y8 ⟨rfl, hb⟩
                      have BY8 := hide (BY7.out.trans (hb.mono BY7.out.size))
                      clear hb
                      go_wp2_with fail
                      refine (CW.out _).mono ?_
                      rintro e y9 ⟨v9, rfl, ho, hb⟩
                      have BY9 := hide (BY8.out.trans (hb.mono BY8.out.size))
                      obtain ⟨A9, n9, c9, rfl, S9, L9, C9⟩ := slice_of_own ho
                      have SY9 := hide S9
                      have LY9 := hide (And.intro L9 C9)
                      clear hb ho S9 L9 C9
                      go_wp2_with fail
                      refine (law_lists _ _ _ (nameWords t0) [t0] _ _ _ _ HWL.out (by simp) LY9.out.1 rfl (SY9.out.below ((Below.refl _ _).alloc (Nat.le_refl _) _)) (.inr ⟨_, rfl, by simp, one_at _ t0⟩) LY9.out.2 (by simp)).mono ?_
                      rw [WE.out]
                      rintro e y10 ⟨rfl, hb⟩
                      have BY10 := hide ((BY9.out.alloc BY9.out.size _).trans (hb.mono (by have := BY9.out.size; simp; omega)))
                      clear hb
                      go_wp2_with fail
                      refine (law_alive _).mono ?_
                      rintro e y11 ⟨rfl, hb⟩
                      have BY11 := hide (BY10.out.trans (hb.mono BY10.out.size))
                      clear hb
                      go_wp2_with fail
                      go_ret
                      exact ⟨rfl, below_end HB0.out (below_from HB.out BY11.out)⟩
                    | false =>
                      go_wp2_with fail
                      refine (CJ.out _).mono ?_
                      rintro e y1 ⟨v1, rfl, ho, hb⟩
                      have BY1 := hide (BY0.out.trans (hb.mono BY0.out.size))
                      obtain ⟨A1, n1, c1, rfl, S1, L1, C1⟩ := slice_of_own ho
                      have SY1 := hide S1
                      have LY1 := hide (And.intro L1 C1)
                      clear hb ho S1 L1 C1
                      go_wp2_with fail
                      refine (law_lists _ _ _ l l _ _ _ _ HL6.out HL6.out LY1.out.1 LN.out.1 SY1.out (SL.out.below (below_from HB.out BY1.out)) LY1.out.2 LN.out.2).mono ?_
                      rintro e y2 ⟨rfl, hb⟩
                      have BY2 := hide (BY1.out.trans (hb.mono BY1.out.size))
                      clear hb
                      go_wp2_with fail
                      refine (CA.out _).mono ?_
                      rintro e y3 ⟨rfl, hb⟩
                      have BY3 := hide (BY2.out.trans (hb.mono BY2.out.size))
                      clear hb
                      go_wp2_with fail
                      refine (CB.out _).mono ?_
                      rintro e y4 ⟨rfl, hb⟩
                      have BY4 := hide (BY3.out.trans (hb.mono BY3.out.size))
                      clear hb
                      have e0 : y4.cell? ⟨g, 0, none⟩ = some (.string t0) := (BY4.out.cell (p := ⟨g, 0, none⟩) (Nat.lt_of_lt_of_le HE0.out.1 HB.out.size)).trans ((HB.out.cell (p := ⟨g, 0, none⟩) HE0.out.1).trans HE0.out.2)
                      go_wp2_with fail
                      refine (CA.out _).mono ?_
                      rintro e y5 ⟨rfl, hb⟩
                      have BY5 := hide (BY4.out.trans (hb.mono BY4.out.size))
                      clear hb
                      go_wp2_with fail
                      refine (CA.out _).mono ?_
                      rintro e y6 ⟨rfl, hb⟩
                      have BY6 := hide (BY5.out.trans (hb.mono BY5.out.size))
                      clear hb
                      go_wp2_with fail
                      refine (CW.out _).mono ?_
                      rintro e y7 ⟨v7, rfl, ho, hb⟩
                      have BY7 := hide (BY6.out.trans (hb.mono BY6.out.size))
                      obtain ⟨A7, n7, c7, rfl, S7, L7, C7⟩ := slice_of_own ho
                      have SY7 := hide S7
                      have LY7 := hide (And.intro L7 C7)
                      clear hb ho S7 L7 C7
                      go_wp2_with fail
                      refine (law_lists _ _ _ (nameWords t0) [t0] _ _ _ _ HWL.out (by simp) LY7.out.1 rfl (SY7.out.below ((Below.refl _ _).alloc (Nat.le_refl _) _)) (.inr ⟨_, rfl, by simp, one_at _ t0⟩) LY7.out.2 (by simp)).mono ?_
                      rw [WE.out]
                      rintro e y8 ⟨rfl, hb⟩
                      have BY8 := hide ((BY7.out.alloc BY7.out.size _).trans (hb.mono (by have := BY7.out.size; simp; omega)))
                      clear hb
                      go_wp2_with fail
                      refine (law_alive _).mono ?_
                      rintro e y9 ⟨rfl, hb⟩
                      have BY9 := hide (BY8.out.trans (hb.mono BY8.out.size))
                      clear hb
                      go_wp2_with fail
                      go_ret
                      exact ⟨rfl, below_end HB0.out (below_from HB.out BY9.out)⟩
                  · have ta : (t0.toList == a.toList) = false := toList_ne ht
                    have HT := hide ht
                    clear ht
                    cases qb with
                    | true =>
                      go_wp2_with fail
                      refine (CJ.out _).mono ?_
                      rintro e y1 ⟨v1, rfl, ho, hb⟩
                      have BY1 := hide (BY0.out.trans (hb.mono BY0.out.size))
                      obtain ⟨A1, n1, c1, rfl, S1, L1, C1⟩ := slice_of_own ho
                      have SY1 := hide S1
                      have LY1 := hide (And.intro L1 C1)
                      clear hb ho S1 L1 C1
                      go_wp2_with fail
                      refine (law_lists _ _ _ l l _ _ _ _ HL6.out HL6.out LY1.out.1 LN.out.1 SY1.out (SL.out.below (below_from HB.out BY1.out)) LY1.out.2 LN.out.2).mono ?_
                      rintro e y2 ⟨rfl, hb⟩
                      have BY2 := hide (BY1.out.trans (hb.mono BY1.out.size))
                      clear hb
                      go_wp2_with fail
                      refine (CA.out _).mono ?_
                      rintro e y3 ⟨rfl, hb⟩
                      have BY3 := hide (BY2.out.trans (hb.mono BY2.out.size))
                      clear hb
                      go_wp2_with fail
                      refine (CB.out _).mono ?_
                      rintro e y4 ⟨rfl, hb⟩
                      have BY4 := hide (BY3.out.trans (hb.mono BY3.out.size))
                      clear hb
                      go_wp2_with fail
                      refine (CP.out (by simp) (by simp) _).mono ?_
                      rintro e y5 ⟨v5, rfl, ho, hb⟩
                      have BY5 := hide (BY4.out.trans (hb.mono BY4.out.size))
                      obtain ⟨A5, n5, c5, rfl, S5, L5, C5⟩ := slice_of_own ho
                      have SY5 := hide S5
                      have LY5 := hide (And.intro L5 C5)
                      clear hb ho S5 L5 C5
                      go_wp2_with fail
                      refine (law_lists _ _ _ [a, b] [a, b] _ _ _ _ (by simp) (by simp) LY5.out.1 rfl (SY5.out.below ((Below.refl _ _).alloc (Nat.le_refl _) _)) (.inr ⟨_, rfl, by simp, two_at _ a b⟩) LY5.out.2 (by simp)).mono ?_
                      rintro e y6 ⟨rfl, hb⟩
                      have BY6 := hide ((BY5.out.alloc BY5.out.size _).trans (hb.mono (by have := BY5.out.size; simp; omega)))
                      clear hb
                      have e0 : y6.cell? ⟨g, 0, none⟩ = some (.string t0) := (BY6.out.cell (p := ⟨g, 0, none⟩) (Nat.lt_of_lt_of_le HE0.out.1 HB.out.size)).trans ((HB.out.cell (p := ⟨g, 0, none⟩) HE0.out.1).trans HE0.out.2)
                      go_wp2_with fail
                      refine (CA.out _).mono ?_
                      rintro e y7 ⟨rfl, hb⟩
                      have BY7 := hide (BY6.out.trans (hb.mono BY6.out.size))
                      clear hb
                      go_wp2_with fail
                      refine (CA.out _).mono ?_
                      rintro e y8 ⟨rfl, hb⟩
                      have BY8 := hide (BY7.out.trans (hb.mono BY7.out.size))
                      clear hb
                      go_wp2_with fail
                      refine (CW.out _).mono ?_
                      rintro e y9 ⟨v9, rfl, ho, hb⟩
                      have BY9 := hide (BY8.out.trans (hb.mono BY8.out.size))
                      obtain ⟨A9, n9, c9, rfl, S9, L9, C9⟩ := slice_of_own ho
                      have SY9 := hide S9
                      have LY9 := hide (And.intro L9 C9)
                      clear hb ho S9 L9 C9
                      go_wp2_with fail
                      refine (law_lists _ _ _ (nameWords a) [a] _ _ _ _ HWL.out (by simp) LY9.out.1 rfl (SY9.out.below ((Below.refl _ _).alloc (Nat.le_refl _) _)) (.inr ⟨_, rfl, by simp, one_at _ a⟩) LY9.out.2 (by simp)).mono ?_
                      rw [WE.out]
                      rintro e y10 ⟨rfl, hb⟩
                      have BY10 := hide ((BY9.out.alloc BY9.out.size _).trans (hb.mono (by have := BY9.out.size; simp; omega)))
                      clear hb
                      go_wp2_with fail
                      refine (law_alive _).mono ?_
                      rintro e y11 ⟨rfl, hb⟩
                      have BY11 := hide (BY10.out.trans (hb.mono BY10.out.size))
                      clear hb
                      go_wp2_with fail
                      go_ret
                      exact ⟨rfl, below_end HB0.out (below_from HB.out BY11.out)⟩
                    | false =>
                      go_wp2_with fail
                      refine (CJ.out _).mono ?_
                      rintro e y1 ⟨v1, rfl, ho, hb⟩
                      have BY1 := hide (BY0.out.trans (hb.mono BY0.out.size))
                      obtain ⟨A1, n1, c1, rfl, S1, L1, C1⟩ := slice_of_own ho
                      have SY1 := hide S1
                      have LY1 := hide (And.intro L1 C1)
                      clear hb ho S1 L1 C1
                      go_wp2_with fail
                      refine (law_lists _ _ _ l l _ _ _ _ HL6.out HL6.out LY1.out.1 LN.out.1 SY1.out (SL.out.below (below_from HB.out BY1.out)) LY1.out.2 LN.out.2).mono ?_
                      rintro e y2 ⟨rfl, hb⟩
                      have BY2 := hide (BY1.out.trans (hb.mono BY1.out.size))
                      clear hb
                      go_wp2_with fail
                      refine (CA.out _).mono ?_
                      rintro e y3 ⟨rfl, hb⟩
                      have BY3 := hide (BY2.out.trans (hb.mono BY2.out.size))
                      clear hb
                      go_wp2_with fail
                      refine (CB.out _).mono ?_
                      rintro e y4 ⟨rfl, hb⟩
                      have BY4 := hide (BY3.out.trans (hb.mono BY3.out.size))
                      clear hb
                      have e0 : y4.cell? ⟨g, 0, none⟩ = some (.string t0) := (BY4.out.cell (p := ⟨g, 0, none⟩) (Nat.lt_of_lt_of_le HE0.out.1 HB.out.size)).trans ((HB.out.cell (p := ⟨g, 0, none⟩) HE0.out.1).trans HE0.out.2)
                      go_wp2_with fail
                      refine (CA.out _).mono ?_
                      rintro e y5 ⟨rfl, hb⟩
                      have BY5 := hide (BY4.out.trans (hb.mono BY4.out.size))
                      clear hb
                      go_wp2_with fail
                      refine (CA.out _).mono ?_
                      rintro e y6 ⟨rfl, hb⟩
                      have BY6 := hide (BY5.out.trans (hb.mono BY5.out.size))
                      clear hb
                      go_wp2_with fail
                      refine (CW.out _).mono ?_
                      rintro e y7 ⟨v7, rfl, ho, hb⟩
                      have BY7 := hide (BY6.out.trans (hb.mono BY6.out.size))
                      obtain ⟨A7, n7, c7, rfl, S7, L7, C7⟩ := slice_of_own ho
                      have SY7 := hide S7
                      have LY7 := hide (And.intro L7 C7)
                      clear hb ho S7 L7 C7
                      go_wp2_with fail
                      refine (law_lists _ _ _ (nameWords a) [a] _ _ _ _ HWL.out (by simp) LY7.out.1 rfl (SY7.out.below ((Below.refl _ _).alloc (Nat.le_refl _) _)) (.inr ⟨_, rfl, by simp, one_at _ a⟩) LY7.out.2 (by simp)).mono ?_
                      rw [WE.out]
                      rintro e y8 ⟨rfl, hb⟩
                      have BY8 := hide ((BY7.out.alloc BY7.out.size _).trans (hb.mono (by have := BY7.out.size; simp; omega)))
                      clear hb
                      go_wp2_with fail
                      refine (law_alive _).mono ?_
                      rintro e y9 ⟨rfl, hb⟩
                      have BY9 := hide (BY8.out.trans (hb.mono BY8.out.size))
                      clear hb
                      go_wp2_with fail
                      go_ret
                      exact ⟨rfl, below_end HB0.out (below_from HB.out BY9.out)⟩
                · have n1 : ((k : Int) == 1) = false := by
                    rw [beq_eq_false_iff_ne]
                    omega
                  have HK1 := hide hk1
                  clear hk1
                  cases qb with
                  | true =>
                    go_wp2_with fail
                    refine (CJ.out _).mono ?_
                    rintro e y1 ⟨v1, rfl, ho, hb⟩
                    have BY1 := hide (BY0.out.trans (hb.mono BY0.out.size))
                    obtain ⟨A1, n1, c1, rfl, S1, L1, C1⟩ := slice_of_own ho
                    have SY1 := hide S1
                    have LY1 := hide (And.intro L1 C1)
                    clear hb ho S1 L1 C1
                    go_wp2_with fail
                    refine (law_lists _ _ _ l l _ _ _ _ HL6.out HL6.out LY1.out.1 LN.out.1 SY1.out (SL.out.below (below_from HB.out BY1.out)) LY1.out.2 LN.out.2).mono ?_
                    rintro e y2 ⟨rfl, hb⟩
                    have BY2 := hide (BY1.out.trans (hb.mono BY1.out.size))
                    clear hb
                    go_wp2_with fail
                    refine (CA.out _).mono ?_
                    rintro e y3 ⟨rfl, hb⟩
                    have BY3 := hide (BY2.out.trans (hb.mono BY2.out.size))
                    clear hb
                    go_wp2_with fail
                    refine (CB.out _).mono ?_
                    rintro e y4 ⟨rfl, hb⟩
                    have BY4 := hide (BY3.out.trans (hb.mono BY3.out.size))
                    clear hb
                    go_wp2_with fail
                    refine (CP.out (by simp) (by simp) _).mono ?_
                    rintro e y5 ⟨v5, rfl, ho, hb⟩
                    have BY5 := hide (BY4.out.trans (hb.mono BY4.out.size))
                    obtain ⟨A5, n5, c5, rfl, S5, L5, C5⟩ := slice_of_own ho
                    have SY5 := hide S5
                    have LY5 := hide (And.intro L5 C5)
                    clear hb ho S5 L5 C5
                    go_wp2_with fail
                    refine (law_lists _ _ _ [a, b] [a, b] _ _ _ _ (by simp) (by simp) LY5.out.1 rfl (SY5.out.below ((Below.refl _ _).alloc (Nat.le_refl _) _)) (.inr ⟨_, rfl, by simp, two_at _ a b⟩) LY5.out.2 (by simp)).mono ?_
                    rintro e y6 ⟨rfl, hb⟩
                    have BY6 := hide ((BY5.out.alloc BY5.out.size _).trans (hb.mono (by have := BY5.out.size; simp; omega)))
                    clear hb
                    go_wp2_with fail
                    refine (CA.out _).mono ?_
                    rintro e y7 ⟨rfl, hb⟩
                    have BY7 := hide (BY6.out.trans (hb.mono BY6.out.size))
                    clear hb
                    go_wp2_with fail
                    refine (CA.out _).mono ?_
                    rintro e y8 ⟨rfl, hb⟩
                    have BY8 := hide (BY7.out.trans (hb.mono BY7.out.size))
                    clear hb
                    go_wp2_with fail
                    refine (CW.out _).mono ?_
                    rintro e y9 ⟨v9, rfl, ho, hb⟩
                    have BY9 := hide (BY8.out.trans (hb.mono BY8.out.size))
                    obtain ⟨A9, n9, c9, rfl, S9, L9, C9⟩ := slice_of_own ho
                    have SY9 := hide S9
                    have LY9 := hide (And.intro L9 C9)
                    clear hb ho S9 L9 C9
                    go_wp2_with fail
                    refine (law_lists _ _ _ (nameWords a) [a] _ _ _ _ HWL.out (by simp) LY9.out.1 rfl (SY9.out.below ((Below.refl _ _).alloc (Nat.le_refl _) _)) (.inr ⟨_, rfl, by simp, one_at _ a⟩) LY9.out.2 (by simp)).mono ?_
                    rw [WE.out]
                    rintro e y10 ⟨rfl, hb⟩
                    have BY10 := hide ((BY9.out.alloc BY9.out.size _).trans (hb.mono (by have := BY9.out.size; simp; omega)))
                    clear hb
                    go_wp2_with fail
                    refine (law_alive _).mono ?_
                    rintro e y11 ⟨rfl, hb⟩
                    have BY11 := hide (BY10.out.trans (hb.mono BY10.out.size))
                    clear hb
                    go_wp2_with fail
                    go_ret
                    exact ⟨rfl, below_end HB0.out (below_from HB.out BY11.out)⟩
                  | false =>
                    go_wp2_with fail
                    refine (CJ.out _).mono ?_
                    rintro e y1 ⟨v1, rfl, ho, hb⟩
                    have BY1 := hide (BY0.out.trans (hb.mono BY0.out.size))
                    obtain ⟨A1, n1, c1, rfl, S1, L1, C1⟩ := slice_of_own ho
                    have SY1 := hide S1
                    have LY1 := hide (And.intro L1 C1)
                    clear hb ho S1 L1 C1
                    go_wp2_with fail
                    refine (law_lists _ _ _ l l _ _ _ _ HL6.out HL6.out LY1.out.1 LN.out.1 SY1.out (SL.out.below (below_from HB.out BY1.out)) LY1.out.2 LN.out.2).mono ?_
                    rintro e y2 ⟨rfl, hb⟩
                    have BY2 := hide (BY1.out.trans (hb.mono BY1.out.size))
                    clear hb
                    go_wp2_with fail
                    refine (CA.out _).mono ?_
                    rintro e y3 ⟨rfl, hb⟩
                    have BY3 := hide (BY2.out.trans (hb.mono BY2.out.size))
                    clear hb
                    go_wp2_with fail
                    refine (CB.out _).mono ?_
                    rintro e y4 ⟨rfl, hb⟩
                    have BY4 := hide (BY3.out.trans (hb.mono BY3.out.size))
                    clear hb
                    go_wp2_with fail
                    refine (CA.out _).mono ?_
                    rintro e y5 ⟨rfl, hb⟩
                    have BY5 := hide (BY4.out.trans (hb.mono BY4.out.size))
                    clear hb
                    go_wp2_with fail
                    refine (CA.out _).mono ?_
                    rintro e y6 ⟨rfl, hb⟩
                    have BY6 := hide (BY5.out.trans (hb.mono BY5.out.size))
                    clear hb
                    go_wp2_with fail
                    refine (CW.out _).mono ?_
                    rintro e y7 ⟨v7, rfl, ho, hb⟩
                    have BY7 := hide (BY6.out.trans (hb.mono BY6.out.size))
                    obtain ⟨A7, n7, c7, rfl, S7, L7, C7⟩ := slice_of_own ho
                    have SY7 := hide S7
                    have LY7 := hide (And.intro L7 C7)
                    clear hb ho S7 L7 C7
                    go_wp2_with fail
                    refine (law_lists _ _ _ (nameWords a) [a] _ _ _ _ HWL.out (by simp) LY7.out.1 rfl (SY7.out.below ((Below.refl _ _).alloc (Nat.le_refl _) _)) (.inr ⟨_, rfl, by simp, one_at _ a⟩) LY7.out.2 (by simp)).mono ?_
                    rw [WE.out]
                    rintro e y8 ⟨rfl, hb⟩
                    have BY8 := hide ((BY7.out.alloc BY7.out.size _).trans (hb.mono (by have := BY7.out.size; simp; omega)))
                    clear hb
                    go_wp2_with fail
                    refine (law_alive _).mono ?_
                    rintro e y9 ⟨rfl, hb⟩
                    have BY9 := hide (BY8.out.trans (hb.mono BY8.out.size))
                    clear hb
                    go_wp2_with fail
                    go_ret
                    exact ⟨rfl, below_end HB0.out (below_from HB.out BY9.out)⟩
            | false =>
              by_cases hk1 : k = 1
              · have n1 : ((k : Int) == 1) = true := by rw [hk1]; rfl
                have kp : 0 < k := by omega
                obtain ⟨t0, hl1⟩ : ∃ t0, l = [t0] := List.length_eq_one_iff.1 (by rw [← LN.out.1]; exact hk1)
                obtain ⟨g, rfl, e0⟩ := strs_zero SL.out (t := t0) (by rw [hl1]; rfl)
                have ht : t0 ≠ a := fun h => by
                  have h1 := HALL.out.1 t0 (by rw [hl1]; simp)
                  rw [h, HQ.out.1] at h1
                  cases h1
                have ta : (t0.toList == a.toList) = false := toList_ne ht
                have HE0 := hide e0
                have HK1 := hide (And.intro hk1 hl1)
                have HT := hide ht
                clear hk1 hl1 e0 ht
                by_cases hz : a.toList = ([] : List UInt8)
                · have ae : a.toList.isEmpty = true := by simpa using hz
                  have HZ := hide hz
                  clear hz
                  go_wp2_with fail
                  refine (CJ.out _).mono ?_
                  rintro e y1 ⟨v1, rfl, ho, hb⟩
                  have BY1 := hide (BY0.out.trans (hb.mono BY0.out.size))
                  obtain ⟨A1, n1, c1, rfl, S1, L1, C1⟩ := slice_of_own ho
                  have SY1 := hide S1
                  have LY1 := hide (And.intro L1 C1)
                  clear hb ho S1 L1 C1
                  go_wp2_with fail
                  refine (law_lists _ _ _ l l _ _ _ _ HL6.out HL6.out LY1.out.1 LN.out.1 SY1.out (SL.out.below (below_from HB.out BY1.out)) LY1.out.2 LN.out.2).mono ?_
                  rintro e y2 ⟨rfl, hb⟩
                  have BY2 := hide (BY1.out.trans (hb.mono BY1.out.size))
                  clear hb
                  go_wp2_with fail
                  refine (CA.out _).mono ?_
                  rintro e y3 ⟨rfl, hb⟩
                  have BY3 := hide (BY2.out.trans (hb.mono BY2.out.size))
                  clear hb
                  have e0 : y3.cell? ⟨g, 0, none⟩ = some (.string t0) := (BY3.out.cell (p := ⟨g, 0, none⟩) (Nat.lt_of_lt_of_le HE0.out.1 HB.out.size)).trans ((HB.out.cell (p := ⟨g, 0, none⟩) HE0.out.1).trans HE0.out.2)
                  go_wp2_with fail
                  refine (CA.out _).mono ?_
                  rintro e y4 ⟨rfl, hb⟩
                  have BY4 := hide (BY3.out.trans (hb.mono BY3.out.size))
                  clear hb
                  go_wp2_with fail
                  refine (CA.out _).mono ?_
                  rintro e y5 ⟨rfl, hb⟩
                  have BY5 := hide (BY4.out.trans (hb.mono BY4.out.size))
                  clear hb
                  go_wp2_with fail
                  refine (law_alive _).mono ?_
                  rintro e y6 ⟨rfl, hb⟩
                  have BY6 := hide (BY5.out.trans (hb.mono BY5.out.size))
                  clear hb
                  go_wp2_with fail
                  go_ret
                  exact ⟨rfl, below_end HB0.out (below_from HB.out BY6.out)⟩
                · have ae : a.toList.isEmpty = false := by simpa using hz
                  have HZ := hide hz
                  clear hz
                  go_wp2_with fail
                  refine (CJ.out _).mono ?_
                  rintro e y1 ⟨v1, rfl, ho, hb⟩
                  have BY1 := hide (BY0.out.trans (hb.mono BY0.out.size))
                  obtain ⟨A1, n1, c1, rfl, S1, L1, C1⟩ := slice_of_own ho
                  have SY1 := hide S1
                  have LY1 := hide (And.intro L1 C1)
                  clear hb ho S1 L1 C1
                  go_wp2_with fail
                  refine (law_lists _ _ _ l l _ _ _ _ HL6.out HL6.out LY1.out.1 LN.out.1 SY1.out (SL.out.below (below_from HB.out BY1.out)) LY1.out.2 LN.out.2).mono ?_
                  rintro e y2 ⟨rfl, hb⟩
                  have BY2 := hide (BY1.out.trans (hb.mono BY1.out.size))
                  clear hb
                  go_wp2_with fail
                  refine (CA.out _).mono ?_
                  rintro e y3 ⟨rfl, hb⟩
                  have BY3 := hide (BY2.out.trans (hb.mono BY2.out.size))
                  clear hb
                  have e0 : y3.cell? ⟨g, 0, none⟩ = some (.string t0) := (BY3.out.cell (p := ⟨g, 0, none⟩) (Nat.lt_of_lt_of_le HE0.out.1 HB.out.size)).trans ((HB.out.cell (p := ⟨g, 0, none⟩) HE0.out.1).trans HE0.out.2)
                  go_wp2_with fail
                  refine (CA.out _).mono ?_
                  rintro e y4 ⟨rfl, hb⟩
                  have BY4 := hide (BY3.out.trans (hb.mono BY3.out.size))
                  clear hb
                  go_wp2_with fail
                  refine (CA.out _).mono ?_
                  rintro e y5 ⟨rfl, hb⟩
                  have BY5 := hide (BY4.out.trans (hb.mono BY4.out.size))
                  clear hb
                  go_wp2_with fail
                  refine (CW.out _).mono ?_
                  rintro e y6 ⟨v6, rfl, ho, hb⟩
                  have BY6 := hide (BY5.out.trans (hb.mono BY5.out.size))
                  obtain ⟨A6, n6, c6, rfl, S6, L6, C6⟩ := slice_of_own ho
                  have SY6 := hide S6
                  have LY6 := hide (And.intro L6 C6)
                  clear hb ho S6 L6 C6
                  go_wp2_with fail
                  refine (law_lists _ _ _ (nameWords a) [a] _ _ _ _ HWL.out (by simp) LY6.out.1 rfl (SY6.out.below ((Below.refl _ _).alloc (Nat.le_refl _) _)) (.inr ⟨_, rfl, by simp, one_at _ a⟩) LY6.out.2 (by simp)).mono ?_
                  rw [WE.out]
                  rintro e y7 ⟨rfl, hb⟩
                  have BY7 := hide ((BY6.out.alloc BY6.out.size _).trans (hb.mono (by have := BY6.out.size; simp; omega)))
                  clear hb
                  go_wp2_with fail
                  refine (law_alive _).mono ?_
                  rintro e y8 ⟨rfl, hb⟩
                  have BY8 := hide (BY7.out.trans (hb.mono BY7.out.size))
                  clear hb
                  go_wp2_with fail
                  go_ret
                  exact ⟨rfl, below_end HB0.out (below_from HB.out BY8.out)⟩
              · have n1 : ((k : Int) == 1) = false := by
                  rw [beq_eq_false_iff_ne]
                  omega
                have HK1 := hide hk1
                clear hk1
                by_cases hz : a.toList = ([] : List UInt8)
                · have ae : a.toList.isEmpty = true := by simpa using hz
                  have HZ := hide hz
                  clear hz
                  go_wp2_with fail
                  refine (CJ.out _).mono ?_
                  rintro e y1 ⟨v1, rfl, ho, hb⟩
                  have BY1 := hide (BY0.out.trans (hb.mono BY0.out.size))
                  obtain ⟨A1, n1, c1, rfl, S1, L1, C1⟩ := slice_of_own ho
                  have SY1 := hide S1
                  have LY1 := hide (And.intro L1 C1)
                  clear hb ho S1 L1 C1
                  go_wp2_with fail
                  refine (law_lists _ _ _ l l _ _ _ _ HL6.out HL6.out LY1.out.1 LN.out.1 SY1.out (SL.out.below (below_from HB.out BY1.out)) LY1.out.2 LN.out.2).mono ?_
                  rintro e y2 ⟨rfl, hb⟩
                  have BY2 := hide (BY1.out.trans (hb.mono BY1.out.size))
                  clear hb
                  go_wp2_with fail
                  refine (CA.out _).mono ?_
                  rintro e y3 ⟨rfl, hb⟩
                  have BY3 := hide (BY2.out.trans (hb.mono BY2.out.size))
                  clear hb
                  go_wp2_with fail
                  refine (CA.out _).mono ?_
                  rintro e y4 ⟨rfl, hb⟩
                  have BY4 := hide (BY3.out.trans (hb.mono BY3.out.size))
                  clear hb
                  go_wp2_with fail
                  refine (CA.out _).mono ?_
                  rintro e y5 ⟨rfl, hb⟩
                  have BY5 := hide (BY4.out.trans (hb.mono BY4.out.size))
                  clear hb
                  go_wp2_with fail
                  refine (law_alive _).mono ?_
                  rintro e y6 ⟨rfl, hb⟩
                  have BY6 := hide (BY5.out.trans (hb.mono BY5.out.size))
                  clear hb
                  go_wp2_with fail
                  go_ret
                  exact ⟨rfl, below_end HB0.out (below_from HB.out BY6.out)⟩
                · have ae : a.toList.isEmpty = false := by simpa using hz
                  have HZ := hide hz
                  clear hz
                  go_wp2_with fail
                  refine (CJ.out _).mono ?_
                  rintro e y1 ⟨v1, rfl, ho, hb⟩
                  have BY1 := hide (BY0.out.trans (hb.mono BY0.out.size))
                  obtain ⟨A1, n1, c1, rfl, S1, L1, C1⟩ := slice_of_own ho
                  have SY1 := hide S1
                  have LY1 := hide (And.intro L1 C1)
                  clear hb ho S1 L1 C1
                  go_wp2_with fail
                  refine (law_lists _ _ _ l l _ _ _ _ HL6.out HL6.out LY1.out.1 LN.out.1 SY1.out (SL.out.below (below_from HB.out BY1.out)) LY1.out.2 LN.out.2).mono ?_
                  rintro e y2 ⟨rfl, hb⟩
                  have BY2 := hide (BY1.out.trans (hb.mono BY1.out.size))
                  clear hb
                  go_wp2_with fail
                  refine (CA.out _).mono ?_
                  rintro e y3 ⟨rfl, hb⟩
                  have BY3 := hide (BY2.out.trans (hb.mono BY2.out.size))
                  clear hb
                  go_wp2_with fail
                  refine (CA.out _).mono ?_
                  rintro e y4 ⟨rfl, hb⟩
                  have BY4 := hide (BY3.out.trans (hb.mono BY3.out.size))
                  clear hb
                  go_wp2_with fail
                  refine (CA.out _).mono ?_
                  rintro e y5 ⟨rfl, hb⟩
                  have BY5 := hide (BY4.out.trans (hb.mono BY4.out.size))
                  clear hb
                  go_wp2_with fail
                  refine (CW.out _).mono ?_
                  rintro e y6 ⟨v6, rfl, ho, hb⟩
                  have BY6 := hide (BY5.out.trans (hb.mono BY5.out.size))
                  obtain ⟨A6, n6, c6, rfl, S6, L6, C6⟩ := slice_of_own ho
                  have SY6 := hide S6
                  have LY6 := hide (And.intro L6 C6)
                  clear hb ho S6 L6 C6
                  go_wp2_with fail
                  refine (law_lists _ _ _ (nameWords a) [a] _ _ _ _ HWL.out (by simp) LY6.out.1 rfl (SY6.out.below ((Below.refl _ _).alloc (Nat.le_refl _) _)) (.inr ⟨_, rfl, by simp, one_at _ a⟩) LY6.out.2 (by simp)).mono ?_
                  rw [WE.out]
                  rintro e y7 ⟨rfl, hb⟩
                  have BY7 := hide ((BY6.out.alloc BY6.out.size _).trans (hb.mono (by have := BY6.out.size; simp; omega)))
                  clear hb
                  go_wp2_with fail
                  refine (law_alive _).mono ?_
                  rintro e y8 ⟨rfl, hb⟩
                  have BY8 := hide (BY7.out.trans (hb.mono BY7.out.size))
                  clear hb
                  go_wp2_with fail
                  go_ret
                  exact ⟨rfl, below_end HB0.out (below_from HB.out BY8.out)⟩

end Go.Proofs.Ytmoememioelddaa
