import Derived.Test.YtagminbfboncoaaListNext
/-! The links of a list, and its map, behind a handle that comes or goes. -/
namespace Go.Proofs.Ytagminbfboncoaa
open Go.RowKit Go.Maps
set_option maxHeartbeats 1000000
set_option linter.unusedVariables false

def lc (h : Int × Int) (a b : Option Nat) : Array Value := #[.int .i64 h.1, .int .u64 h.2, lp a, lp b]

theorem chain_front {N : Nat} {w W : World} {hs : List (Int × Int)} {ks : List Nat} {p q : Int × Int} {x k0 : Nat} (hc : Chain N w hs ks) (hx : N ≤ x) (hxk : x ∉ ks) (hk0 : ks[0]? = some k0) (h0 : hs[0]? = some q)
    (hX : Has W x 60 (lc p ks[0]? none)) (hK : Has W k0 60 (lc q ks[1]? (some x)))
    (hr : ∀ i k, 1 ≤ i → ks[i]? = some k → ∀ cs, Has w k 60 cs → Has W k 60 cs) : Chain N W (p :: hs) (x :: ks) := by
  obtain ⟨h1, h2, h3⟩ := hc
  refine ⟨by simp [h1], List.nodup_cons.2 ⟨hxk, h2⟩, fun i h k hi hk => ?_⟩
  cases i with
  | zero =>
    simp at hi hk
    subst hi hk
    refine ⟨hx, ?_⟩
    have e1 : (x :: ks)[0 + 1]? = ks[0]? := by simp
    rw [e1]
    exact hX
  | succ i =>
    simp at hi hk
    obtain ⟨hN, hh⟩ := h3 i h k hi hk
    refine ⟨hN, ?_⟩
    cases i with
    | zero =>
      rw [hk0] at hk
      rw [h0] at hi
      cases hk
      cases hi
      have e1 : (x :: ks)[0 + 1 + 1]? = ks[1]? := by simp
      rw [e1]
      exact hK
    | succ i =>
      have e1 : (x :: ks)[i + 1 + 1 + 1]? = ks[i + 1 + 1]? := by simp
      have e2 : ahead (x :: ks) (i + 1 + 1) = ahead ks (i + 1) := by simp [ahead]
      rw [e1, e2]
      exact hr (i + 1) k (by omega) hk _ hh

theorem chain_back {N : Nat} {w W : World} {hs : List (Int × Int)} {ks : List Nat} {p q : Int × Int} {x kl n : Nat} (hc : Chain N w hs ks) (hx : N ≤ x) (hxk : x ∉ ks) (hn : hs.length = n + 1) (hkl : ks[n]? = some kl) (hl : hs[n]? = some q)
    (hX : Has W x 60 (lc p none (some kl))) (hK : Has W kl 60 (lc q (some x) (ahead ks n)))
    (hr : ∀ i k, i < n → ks[i]? = some k → ∀ cs, Has w k 60 cs → Has W k 60 cs) : Chain N W (hs ++ [p]) (ks ++ [x]) := by
  obtain ⟨h1, h2, h3⟩ := hc
  have hkn : ks.length = n + 1 := by omega
  refine ⟨by simp [h1], ?_, fun i h k hi hk => ?_⟩
  · rw [List.nodup_append]
    exact ⟨h2, by simp, fun a ha b hb => by simp at hb; subst hb; exact fun e => hxk (e ▸ ha)⟩
  · by_cases hin : i < n + 1
    · rw [List.getElem?_append_left (by omega)] at hi hk
      obtain ⟨hN, hh⟩ := h3 i h k hi hk
      refine ⟨hN, ?_⟩
      have ea : ahead (ks ++ [x]) i = ahead ks i := by
        unfold ahead
        split
        · rfl
        · rw [List.getElem?_append_left (by omega)]
      rw [ea]
      by_cases he : i = n
      · subst he
        rw [hkl] at hk
        rw [hl] at hi
        cases hk
        cases hi
        have e1 : (ks ++ [x])[i + 1]? = some x := by
          rw [List.getElem?_append_right (by omega), show i + 1 - ks.length = 0 by omega]
          rfl
        rw [e1]
        exact hK
      · have e1 : (ks ++ [x])[i + 1]? = ks[i + 1]? := List.getElem?_append_left (by omega)
        rw [e1]
        exact hr i k (by omega) hk _ hh
    · have hil : i < (hs ++ [p]).length := (List.getElem?_eq_some_iff.1 hi).1
      simp at hil
      obtain rfl : i = n + 1 := by omega
      rw [List.getElem?_append_right (by omega), show n + 1 - hs.length = 0 by omega] at hi
      rw [List.getElem?_append_right (by omega), show n + 1 - ks.length = 0 by omega] at hk
      cases hi
      cases hk
      refine ⟨hx, ?_⟩
      have e1 : (ks ++ [x])[n + 1 + 1]? = none := by
        rw [List.getElem?_eq_none_iff]
        simp
        omega
      have e2 : ahead (ks ++ [x]) (n + 1) = some kl := by
        unfold ahead
        rw [if_neg (by omega), List.getElem?_append_left (by omega), show n + 1 - 1 = n by omega, hkl]
      rw [e1, e2]
      exact hX

theorem chain_del {N : Nat} {w W : World} {hs : List (Int × Int)} {ks : List Nat} {i : Nat} (hc : Chain N w hs ks) (hin : i < hs.length)
    (hp : ∀ k h, 0 < i → ks[i - 1]? = some k → hs[i - 1]? = some h → Has W k 60 (lc h ks[i + 1]? (ahead ks (i - 1))))
    (hn : ∀ k h, ks[i + 1]? = some k → hs[i + 1]? = some h → Has W k 60 (lc h ks[i + 2]? (ahead ks i)))
    (hr : ∀ j k, j ≠ i → j + 1 ≠ i → j ≠ i + 1 → ks[j]? = some k → ∀ cs, Has w k 60 cs → Has W k 60 cs) : Chain N W (hs.eraseIdx i) (ks.eraseIdx i) := by
  obtain ⟨h1, h2, h3⟩ := hc
  have er : ∀ {α : Type} (l : List α) (j : Nat), (l.eraseIdx i)[j]? = if j < i then l[j]? else l[j + 1]? := fun l j => by rw [List.getElem?_eraseIdx]
  refine ⟨?_, h2.sublist (List.eraseIdx_sublist _ _), fun j h k hj hk => ?_⟩
  · rw [List.length_eraseIdx, List.length_eraseIdx, h1]
  · rw [er] at hj hk
    have ahe : ∀ j, ahead (ks.eraseIdx i) j = if j ≤ i then ahead ks j else ahead ks (j + 1) := fun j => by
      unfold ahead
      by_cases hj0 : j = 0
      · subst hj0
        rw [if_pos rfl, if_pos (by omega), if_pos rfl]
      · by_cases hji : j ≤ i
        · rw [if_neg hj0, er, if_pos (show j - 1 < i by omega), if_pos hji, if_neg hj0]
        · rw [if_neg hj0, er, if_neg (show ¬ j - 1 < i by omega), if_neg hji, if_neg (show ¬ j + 1 = 0 by omega), show j - 1 + 1 = j + 1 - 1 by omega]
    by_cases hji : j < i
    · rw [if_pos hji] at hj hk
      obtain ⟨hN, hh⟩ := h3 j h k hj hk
      refine ⟨hN, ?_⟩
      rw [ahe, if_pos (by omega), er]
      by_cases he : j + 1 = i
      · rw [if_neg (by omega)]
        have := hp k h (by omega) (by rw [show i - 1 = j by omega]; exact hk) (by rw [show i - 1 = j by omega]; exact hj)
        rw [show i - 1 = j by omega, show i + 1 = j + 1 + 1 by omega] at this
        exact this
      · rw [if_pos (by omega)]
        exact hr j k (by omega) he (by omega) hk _ hh
    · rw [if_neg hji] at hj hk
      obtain ⟨hN, hh⟩ := h3 (j + 1) h k hj hk
      refine ⟨hN, ?_⟩
      rw [ahe, er, if_neg (by omega)]
      by_cases he : j = i
      · subst he
        rw [if_pos (Nat.le_refl _)]
        exact hn k h hk hj
      · rw [if_neg (by omega)]
        exact hr (j + 1) k (by omega) (by omega) (by omega) hk _ hh

/-- What the map is to hold. -/
def MapOf (m : List ((Int × Int) × Value)) (hs : List (Int × Int)) (ks : List Nat) : Prop := m.length = hs.length ∧ ∀ h, mget m h = (hs.findIdx? (fun x => decide (x = h))).bind fun i => (ks[i]?).map fun k => .pointer (some ⟨k, 0, none⟩)

theorem mapOf_absent {m : List ((Int × Int) × Value)} {hs : List (Int × Int)} {ks : List Nat} (h : MapOf m hs ks) {p : Int × Int} (hp : p ∉ hs) : ∀ x ∈ m, x.1 ≠ p := by
  have e := h.2 p
  have hn : (hs.findIdx? (fun x => decide (x = p))) = none := by
    rw [List.findIdx?_eq_none_iff]
    intro x hx
    simp
    rintro rfl
    exact hp hx
  rw [hn] at e
  simp at e
  intro x hx he
  subst he
  clear h hn hp
  induction m with
  | nil => cases hx
  | cons y m ih =>
    obtain ⟨k, v⟩ := y
    simp only [mget] at e
    split at e
    · cases e
    · rename_i hk
      rcases List.mem_cons.1 hx with rfl | hx
      · exact hk rfl
      · exact ih hx e

theorem mapOf_front {m : List ((Int × Int) × Value)} {hs : List (Int × Int)} {ks : List Nat} (h : MapOf m hs ks) {p : Int × Int} (hp : p ∉ hs) (x : Nat) : MapOf (mput m p (.pointer (some ⟨x, 0, none⟩))) (p :: hs) (x :: ks) := by
  refine ⟨by rw [mput_none _ (mapOf_absent h hp)]; simp [h.1], fun q => ?_⟩
  rw [mget_put]
  by_cases e : p = q
  · subst e
    simp [List.findIdx?_cons]
  · rw [if_neg e, h.2 q, List.findIdx?_cons, if_neg (by simpa using e)]
    cases hs.findIdx? (fun x => decide (x = q)) with
    | none => rfl
    | some i => simp

theorem mapOf_back {m : List ((Int × Int) × Value)} {hs : List (Int × Int)} {ks : List Nat} (h : MapOf m hs ks) (hl : ks.length = hs.length) {p : Int × Int} (hp : p ∉ hs) (x : Nat) : MapOf (mput m p (.pointer (some ⟨x, 0, none⟩))) (hs ++ [p]) (ks ++ [x]) := by
  refine ⟨by rw [mput_none _ (mapOf_absent h hp)]; simp [h.1], fun q => ?_⟩
  rw [mget_put, List.findIdx?_append]
  by_cases e : p = q
  · subst e
    have hn : (hs.findIdx? (fun x => decide (x = p))) = none := by
      rw [List.findIdx?_eq_none_iff]
      intro x hx
      simp
      rintro rfl
      exact hp hx
    rw [if_pos rfl, hn]
    simp [List.findIdx?_cons, hl.symm]
  · rw [if_neg e, h.2 q]
    cases hf : hs.findIdx? (fun x => decide (x = q)) with
    | none => simp [List.findIdx?_cons, e]
    | some i =>
      have hi : i < hs.length := by
        rw [List.findIdx?_eq_some_iff_getElem] at hf
        exact hf.1
      simp
      rw [List.getElem?_append_left (by omega)]

theorem mapOf_del {m : List ((Int × Int) × Value)} {hs : List (Int × Int)} {ks : List Nat} (h : MapOf m hs ks) (hmn : (m.map Prod.fst).Nodup) (hnd : hs.Nodup) {p : Int × Int} {i : Nat} (hi : hAt hs p = some i) (hlen : (mdel m p).length + 1 = m.length) : MapOf (mdel m p) (hs.eraseIdx i) (ks.eraseIdx i) := by
  have hil := (List.getElem?_eq_some_iff.1 (hAt_some hi)).1
  refine ⟨by rw [List.length_eraseIdx, if_pos hil]; have := h.1; omega, fun q => ?_⟩
  rw [mget_del m p hmn q]
  show _ = (hAt (hs.eraseIdx i) q).bind _
  have hnd' : (hs.eraseIdx i).Nodup := hnd.sublist (List.eraseIdx_sublist _ _)
  by_cases e : p = q
  · subst e
    rw [if_pos rfl]
    have : p ∉ hs.eraseIdx i := by
      intro hm
      obtain ⟨j, hj⟩ := List.getElem?_of_mem hm
      rw [List.getElem?_eraseIdx] at hj
      split at hj
      · have := hAt_of hnd hj
        rw [hi] at this
        cases this
        omega
      · have := hAt_of hnd hj
        rw [hi] at this
        cases this
        omega
    rw [hAt_not this]
    rfl
  · rw [if_neg e, h.2 q]
    show (hAt hs q).bind _ = _
    cases hq : hAt hs q with
    | none =>
      rw [hAt_not (fun hm => hAt_none hq ((List.eraseIdx_sublist _ _).subset hm))]
      rfl
    | some j =>
      have hj := hAt_some hq
      have hne : j ≠ i := fun e2 => by
        subst e2
        rw [hAt_some hi] at hj
        cases hj
        exact e rfl
      by_cases hlt : j < i
      · have : (hs.eraseIdx i)[j]? = some q := by rw [List.getElem?_eraseIdx, if_pos hlt]; exact hj
        rw [hAt_of hnd' this]
        simp only [Option.bind_some]
        rw [List.getElem?_eraseIdx, if_pos hlt]
      · have : (hs.eraseIdx i)[j - 1]? = some q := by rw [List.getElem?_eraseIdx, if_neg (by omega), show j - 1 + 1 = j by omega]; exact hj
        rw [hAt_of hnd' this]
        simp only [Option.bind_some]
        rw [List.getElem?_eraseIdx, if_neg (by omega), show j - 1 + 1 = j by omega]

theorem mdel_len {m : List ((Int × Int) × Value)} {p : Int × Int} (h : (mget m p).isSome) : (mdel m p).length + 1 = m.length := by
  induction m with
  | nil => simp [mget] at h
  | cons y m ih =>
    obtain ⟨k, v⟩ := y
    simp only [mget] at h
    simp only [mdel]
    split
    · rfl
    · rename_i hk
      rw [if_neg hk] at h
      have := ih h
      simp
      exact this

end Go.Proofs.Ytagminbfboncoaa
