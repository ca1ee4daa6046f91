import Derived.Test.YtmoememioelddaaNameMay
import Derived.Maps.AppendAt
import Derived.Deep.Onto
/-! name.Words, walked. -/
namespace Go.Proofs.Ytmoememioelddaa
open Go.RowKit
set_option maxHeartbeats 2000000
set_option maxRecDepth 100000

theorem spans_length (p : Nat → Bool) (s : ByteArray) : ∀ (f pos : Nat) (st : Option Nat) (acc : List (Nat × Nat)), (Lib.spansFromP p s f pos st acc).1.length ≤ acc.length + f := by
  intro f
  induction f with
  | zero => intro pos st acc; simp [Lib.spansFromP]
  | succ f ih =>
    intro pos st acc
    unfold Lib.spansFromP
    split
    · split
      · cases st with
        | none => have := ih (pos + (Utf8.decode s pos).2) none acc; simp only; omega
        | some a => have := ih (pos + (Utf8.decode s pos).2) none (acc ++ [(a, pos)]); simp only [List.length_append, List.length_singleton] at this ⊢; omega
      · cases st with
        | none => have := ih (pos + (Utf8.decode s pos).2) (some pos) acc; simp only; omega
        | some a => have := ih (pos + (Utf8.decode s pos).2) (some a) acc; simp only; omega
    · simp

theorem fields_length (p : Nat → Bool) (s : ByteArray) : (Lib.goFieldsP p s).length ≤ s.size + 1 := by
  unfold Lib.goFieldsP Lib.spansOfP
  rw [List.length_map]
  have h := spans_length p s s.size 0 none []
  generalize Lib.spansFromP p s s.size 0 none [] = x at h
  obtain ⟨l, st⟩ := x
  unfold Lib.closeSpans
  cases st <;> simp at h ⊢ <;> omega

theorem fields_sizes (p : Nat → Bool) (s : ByteArray) : ∀ t ∈ Lib.goFieldsP p s, t.size ≤ s.size := by
  intro t ht
  unfold Lib.goFieldsP at ht
  obtain ⟨x, _, rfl⟩ := List.mem_map.1 ht
  rw [ByteArray.size_extract]
  omega

theorem own_below {w w' : World} {base : Nat} {e : TypeId} {size n : Nat} {v : Value} {xs : List Value} (h : w.ownsRow base e size v n xs) (hb : Below w.heap.size w w') : w'.ownsRow base e size v n xs := by
  refine h.kept (row := none) ⟨hb.os, hb.tape, hb.output, hb.size, fun k hk _ => hb.block k hk⟩ ?_
  cases v.ownBlock with
  | none => exact .inl rfl
  | some a => exact .inr (by simp)

theorem name_words (w : World) (s : ByteArray) (hs : s.size ≤ 4294967296) : Calls Try.prog 15 #[.string s] w fun e w' => ∃ v, e = .returned v ∧
    w'.ownsRow w.heap.size 9 1 v (nameWords s).length ((nameWords s).map Value.string) ∧ Below w.heap.size w w' := by
  obtain ⟨n, hn⟩ : ∃ n, runesOf s = n := ⟨_, rfl⟩
  have CR := hide (fun w => hn ▸ name_runes w s (by omega))
  unfold nameWords
  rw [hn]
  clear hn
  by_cases h1 : n < 0
  · have d1 : decide (n < 0) = true := decide_eq_true h1
    rw [if_pos h1]
    clear h1
    go_enter Try.func15, Try.ntmps15
    go_wp2_with fail
    refine (CR.out _).mono ?_
    rintro e w1 ⟨rfl, hb⟩
    go_wp2_with fail
    go_ret
    exact ⟨_, rfl, World.ownsRow_nil _ _ _ _, hb⟩
  · have d1 : decide (n < 0) = false := decide_eq_false h1
    rw [if_neg h1]
    clear h1
    obtain ⟨l, hl⟩ : ∃ l, Lib.goFieldsP noWord s = l := ⟨_, rfl⟩
    have hlen := fields_length noWord s
    have hsz := fields_sizes noWord s
    rw [hl] at hlen hsz
    have CF := hide (fun w => hl ▸ Try.strings_FieldsFunc_grows 27 #[] (enters_of Try.func27 (by kernel_rfl) rfl) noWord s w hs (fun W x _ _ => name_words_1 W x))
    rw [hl]
    clear hl
    have HS := hide hsz
    obtain ⟨N, hN⟩ : ∃ N, l.length = N := ⟨_, rfl⟩
    rw [hN] at CF hlen
    have HN := hide hN
    clear hsz hN
    obtain ⟨i0, hi, hz0, hz1, hz2⟩ := info_parts (P := Try.prog) (e := 9) (z := .string ⟨#[]⟩) (size := 1) (bytes := 16) (by kernel_rfl)
    go_enter Try.func15, Try.ntmps15
    go_wp2_with fail
    refine (CR.out _).mono ?_
    rintro e w1 ⟨rfl, hb⟩
    have HB1 := hide hb
    clear hb
    go_wp2_with fail
    refine (CF.out _).mono ?_
    rintro e w2 ⟨A, rfl, hA, hown, hb⟩
    have HB2 := hide (HB1.out.trans (hb.mono HB1.out.size))
    have HO := hide hown
    clear hb hown
    go_wp2_with fail
    go_loopw [2, 11] (fun v i wr => ∃ k : Nat, k ≤ N ∧ i = .int .i64 k ∧ wr.ownsRow w2.heap.size 9 1 v ((l.take k).filter nameMay).length (((l.take k).filter nameMay).map Value.string) ∧ Below w2.heap.size w2 wr)
      (fun _ i _ => N - (intOf i).toNat)
    case atStart => exact ⟨0, by omega, rfl, World.ownsRow_nil _ _ _ _, Below.refl _ _⟩
    case round =>
      obtain ⟨k, hk, rfl, hrow, hB⟩ := hrel
      by_cases hlt : k < N
      · obtain ⟨t, ht⟩ : ∃ t, l[k]? = some t := ⟨_, List.getElem?_eq_getElem (by rw [HN.out]; exact hlt)⟩
        have hts := HS.out t (List.mem_of_getElem? ht)
        have hAl : A < w2.heap.size := (HO.out.lt A (by simp [Value.ownBlock])).2
        have e0 : wr.cell? ⟨A, k, none⟩ = some (.string t) := by
          rw [hB.cell (p := ⟨A, k, none⟩) hAl, HO.out.cellAt k (by omega), List.getElem?_map, ht]
          rfl
        have htk : l.take (k + 1) = l.take k ++ [t] := by rw [List.take_add_one, ht]; rfl
        have hfl : ((l.take k).filter nameMay).length ≤ k := Nat.le_trans (List.length_filter_le _ _) (List.length_take_le _ _)
        have HK := hide htk
        clear htk ht
        obtain ⟨q, hq⟩ : ∃ q, nameMay t = q := ⟨_, rfl⟩
        have CM := hide (fun w => hq ▸ name_may w t (by omega))
        have HQ := hide hq
        clear hq
        have HR := hide hrow
        cases q with
        | false =>
          clear hrow
          go_wp2_with fail
          refine (CM.out _).mono ?_
          rintro e w3 ⟨rfl, hb⟩
          have HB3 := hide hb
          clear hb
          go_wp2_with fail
          go_roundw
          case rel =>
            refine ⟨k + 1, by omega, by go_num, ?_, hB.trans (HB3.out.mono hB.size)⟩
            rw [HK.out, List.filter_append, show List.filter nameMay [t] = [] by simp [HQ.out], List.append_nil]
            exact own_below HR.out HB3.out
          case measure => simp [intOf]; omega
        | true =>
          clear hrow
          go_wp2_with fail
          refine (CM.out _).mono ?_
          rintro e w3 ⟨rfl, hb⟩
          have HB3 := hide hb
          clear hb
          have hown := own_below HR.out HB3.out
          have hsz3 : w2.heap.size ≤ w3.heap.size := Nat.le_trans hB.size HB3.out.size
          go_wp2_with (at_builtin; refine wpList_append_own _ rfl _ _ 26 rfl w2.heap.size 9 i0 (.string ⟨#[]⟩) 1 16 Try.underlying26 hi hz0 hz1 hz2 rfl (by decide) _ _ _ rfl (hown.alloc _) ⟨w3.heap.size, 0, none⟩ 1 1 [.string t] rfl rfl (cell_one_new _ _ _) (fun x hx => by simp at hx; subst hx; rfl) (by unfold maxLen; omega) (by omega) (by simp; omega) ?_; intro v' w4 hown' hgrow4 hnil4)
          go_roundw
          case rel =>
            refine ⟨k + 1, by omega, by go_num, ?_, ((hB.trans (HB3.out.mono hB.size)).alloc hsz3 _).grown hgrow4 (by simp; omega) (fun q hq => (hown.lt q hq).1)⟩
            rw [HK.out, List.filter_append, show List.filter nameMay [t] = [t] by simp [HQ.out], List.length_append, List.map_append]
            exact hown'
          case measure => simp [intOf]; omega
      · go_wp2_with fail
        go_ret
        refine ⟨_, rfl, ?_, HB2.out.trans (hB.mono HB2.out.size)⟩
        rw [List.take_of_length_le (by rw [HN.out]; omega)] at hrow
        exact World.ownsRow.mono hrow HB2.out.size

end Go.Proofs.Ytmoememioelddaa
