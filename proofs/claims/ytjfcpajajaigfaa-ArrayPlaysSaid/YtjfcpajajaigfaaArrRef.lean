import Derived.Test.YtjfcpajajaigfaaArrAlive
import Derived.Test.YtjfcpajajaigfaaOpen
import Derived.Test.YtjfcpajajaigfaaWf
/-! The document's answer of stage 19. -/
namespace Go.Proofs.Ytjfcpajajaigfaa
open Go.RowKit Go.Maps Go.Lib
set_option maxHeartbeats 1000000
set_option maxRecDepth 100000

/-- The document's array at block x: its texts, in the row g. -/
def RefIs (w : World) (x g : Nat) (L : List ByteArray) : Prop :=
  ∃ cap cur, Has w x 45 #[.slice (some ⟨g, 0, none⟩) L.length cap] ∧ Has w g 9 cur ∧ cur.toList.take L.length = L.map Value.string ∧ L.length ≤ cap ∧ cap ≤ maxLen ∧ cur.size = cap

theorem RefIs.kept {w w' : World} {x g : Nat} {L : List ByteArray} (h : RefIs w x g L) (h1 : w'.heap[x]? = w.heap[x]?) (h2 : w'.heap[g]? = w.heap[g]?) : RefIs w' x g L := by
  obtain ⟨cap, cur, a, b, c⟩ := h
  exact ⟨cap, cur, h1.trans a, h2.trans b, c⟩
theorem RefIs.ltx {w : World} {x g : Nat} {L : List ByteArray} (h : RefIs w x g L) : x < w.heap.size := by
  obtain ⟨cap, cur, a, b, c⟩ := h
  exact a.lt
theorem RefIs.ltg {w : World} {x g : Nat} {L : List ByteArray} (h : RefIs w x g L) : g < w.heap.size := by
  obtain ⟨cap, cur, a, b, c⟩ := h
  exact b.lt
theorem RefIs.below {w w' : World} {x g : Nat} {L : List ByteArray} (h : RefIs w x g L) (hb : Below w.heap.size w w') : RefIs w' x g L :=
  h.kept (hb.block _ h.ltx) (hb.block _ h.ltg)
theorem RefIs.turned {S : Nat → Prop} {w w' : World} {x g : Nat} {L : List ByteArray} (h : RefIs w x g L) (ht : Turned S w w') (hx : ¬ S x) (hg : ¬ S g) : RefIs w' x g L :=
  h.kept (ht.block _ h.ltx hx) (ht.block _ h.ltg hg)
theorem RefIs.set {w : World} {x g : Nat} {L : List ByteArray} (h : RefIs w x g L) (k : Nat) (u : ByteArray) : RefIs (w.setCell ⟨g, k, none⟩ (.string u)) x g (L.set k u) := by
  obtain ⟨cap, cur, a, b, c, d, e, f⟩ := h
  have hne : x ≠ g := a.ne b (by decide)
  refine ⟨cap, _, by rw [List.length_set]; exact a.far hne _, b.set k _, ?_, by rw [List.length_set]; exact d, e, by simpa using f⟩
  rw [List.length_set, Array.toList_setIfInBounds, List.take_set, c, List.map_set]
theorem RefIs.cell {w : World} {x g : Nat} {L : List ByteArray} (h : RefIs w x g L) {k : Nat} {s : ByteArray} (hs : L[k]? = some s) : w.cell? ⟨g, k, none⟩ = some (.string s) := by
  obtain ⟨cap, cur, a, b, c, _⟩ := h
  have h1 : (L.map Value.string)[k]? = some (.string s) := by rw [List.getElem?_map, hs]; rfl
  have hk : k < L.length := (List.getElem?_eq_some_iff.1 hs).1
  rw [← c, List.getElem?_take, if_pos hk] at h1
  rw [b.cell]
  simpa using h1

/-- A text over a text. -/
def putText (s : ByteArray) (a : Nat) (t : ByteArray) : ByteArray := s.extract 0 a ++ t ++ s.extract (a + t.size) s.size

theorem ref_put_bad (s : ByteArray) (a : Int) (t : ByteArray) (hs : s.size ≤ 9223372036854775807) (h : ¬ (0 ≤ a ∧ a ≤ s.size ∧ (t.size : Int) ≤ s.size - a)) (w : World) :
    Calls Try.prog 30 #[.string s, .int .i64 a, .string t] w fun e w' => e = .returned (.tuple #[.string ⟨#[]⟩, .bool false]) ∧ w = w' := by
  by_cases h0 : a < 0
  · go_enter Try.func30, Try.ntmps30
    go_wp2
    go_ret2
    exact ⟨rfl, rfl⟩
  · by_cases h1 : (s.size : Int) < a
    · go_enter Try.func30, Try.ntmps30
      go_wp2
      go_ret2
      exact ⟨rfl, rfl⟩
    · have W1 : IntKind.i64.wrap ((s.size : Int) - a) = s.size - a := wrap_i64 (by omega) (by omega)
      have D2 : decide ((s.size : Int) - a < (t.size : Int)) = true := decide_eq_true (by omega)
      clear h
      go_enter Try.func30, Try.ntmps30
      go_wp2_with fail
      go_ret2
      exact ⟨rfl, rfl⟩

theorem ref_put (s : ByteArray) (k : Nat) (t : ByteArray) (hs : s.size ≤ 128) (h : k + t.size ≤ s.size) (w : World) :
    Calls Try.prog 30 #[.string s, .int .i64 k, .string t] w fun e w' => e = .returned (.tuple #[.string (putText s k t), .bool true]) ∧ Below w.heap.size w w' := by
  have W1 : IntKind.i64.wrap ((s.size : Int) - k) = s.size - k := wrap_i64 (by omega) (by omega)
  have D1 : decide ((s.size : Int) < k) = false := decide_eq_false (by omega)
  have D2 : decide ((s.size : Int) - k < (t.size : Int)) = false := decide_eq_false (by omega)
  have hz1 : (9223372036854775807 < min k s.size + t.size) = False := eq_false (by omega)
  have hz2 : (9223372036854775807 < min k s.size + t.size + (s.size - (k + t.size))) = False := eq_false (by omega)
  have hw : IntKind.i64.wrap ((k : Int) + t.size) = k + t.size := wrap_i64 (by omega) (by omega)
  have hk0 : (0 : Int) ≤ (k : Int) + t.size := by omega
  have hk1 : (k : Int) ≤ s.size := by omega
  have hk2 : (k : Int) + t.size ≤ s.size := by omega
  have ht : ((k : Int) + t.size).toNat = k + t.size := by omega
  unfold putText
  go_enter Try.func30, Try.ntmps30
  go_wp2_with fail
  go_quiet (fail)
  go_wp2_with fail
  go_ret2
  exact ⟨rfl, Below.drewN_ (Below.refl _ w) _⟩

/-- What Write answers. -/
def writeCode (size n s a : Int) (t : ByteArray) : Int := if 0 ≤ s ∧ s < n then (if 0 ≤ a ∧ a ≤ size ∧ (t.size : Int) ≤ size - a then 0 else 9) else 5

theorem arr_writes (w : World) (b mb : Nat) (size n : Int) (l : List (Int × List Int)) (h : ArrIs w b mb size n l) (s a : Int) (t : ByteArray) (hs0 : 1 ≤ size) (hs1 : size ≤ 128) (hok : intOk s) (ht : t.size < 9223372036854775808) :
    Calls Try.prog 13 #[.pointer (some ⟨b, 0, none⟩), .int .i64 s, .int .i64 a, .string t] w fun e w' => e = .returned (.int .i64 (writeCode size n s a t)) ∧
      ArrIs w' b mb size n (if writeCode size n s a t = 0 then mput l s (putBytes (slotOf l s) a.toNat t) else l) ∧ Turned (fun k => k = mb) w w' := by
  unfold writeCode
  by_cases h0 : 0 ≤ s ∧ s < n
  · by_cases h1 : 0 ≤ a ∧ a ≤ size ∧ (t.size : Int) ≤ size - a
    · rw [if_pos h0, if_pos h1, if_pos rfl]
      exact arr_write w b mb size n l h s a t h0.1 h0.2 hs0 hs1 hok h1.1 h1.2.1 h1.2.2
    · rw [if_pos h0, if_neg h1, if_neg (by decide)]
      exact (arr_write_over w b mb size n l h s a t h0 hs0 hs1 ht h1).mono fun e w' ⟨he, hw⟩ => hw ▸ ⟨he, h, Turned.refl _ _⟩
  · rw [if_neg h0, if_neg (by decide)]
    exact (arr_write_none w b mb size n l h s a t h0).mono fun e w' ⟨he, hw⟩ => hw ▸ ⟨he, h, Turned.refl _ _⟩

theorem ref_write_none (w : World) (x g : Nat) (L : List ByteArray) (h : RefIs w x g L) (s a : Int) (t : ByteArray) (h0 : ¬ (0 ≤ s ∧ s < L.length)) :
    Calls Try.prog 14 #[.pointer (some ⟨x, 0, none⟩), .int .i64 s, .int .i64 a, .string t] w fun e w' => e = .returned (.int .i64 5) ∧ Below w.heap.size w w' := by
  obtain ⟨cap, cur, hx, hg, hc, hc1, hc2, hc3⟩ := h
  have c0 := hx.cell 0
  simp at c0
  unfold maxLen at hc2
  clear hx hg hc
  by_cases h1 : s < 0
  · go_enter Try.func14, Try.ntmps14
    go_wp2_with fail
    go_ret
    exact ⟨rfl, Below.refl _ _⟩
  · have D1 : decide ((L.length : Int) ≤ s) = true := decide_eq_true (by omega)
    go_enter Try.func14, Try.ntmps14
    go_wp2_with fail
    go_ret
    exact ⟨rfl, Below.refl _ _⟩

theorem ref_write (w : World) (x g : Nat) (L : List ByteArray) (h : RefIs w x g L) (k : Nat) (S : ByteArray) (hS : L[k]? = some S) (a : Int) (t : ByteArray) (hs : S.size ≤ 128) (h1 : 0 ≤ a ∧ a ≤ S.size ∧ (t.size : Int) ≤ S.size - a) :
    Calls Try.prog 14 #[.pointer (some ⟨x, 0, none⟩), .int .i64 k, .int .i64 a, .string t] w fun e w' => e = .returned (.int .i64 0) ∧ RefIs w' x g (L.set k (putText S a.toNat t)) ∧ Turned (fun k => k = g) w w' := by
  have HR := hide h
  obtain ⟨a, rfl⟩ := Int.eq_ofNat_of_zero_le h1.1
  have hcell := h.cell hS
  have hk : k < L.length := (List.getElem?_eq_some_iff.1 hS).1
  have G := hide (ref_put S a t hs (by omega))
  have HS := hide hS
  obtain ⟨cap, cur, hx, hg, hc, hc1, hc2, hc3⟩ := h
  have c0 := hx.cell 0
  simp at c0
  have hf := hg.free k
  have D0 : decide ((L.length : Int) ≤ k) = false := decide_eq_false (by omega)
  have D1 : decide (L.length ≤ k) = false := decide_eq_false (by omega)
  clear hx hg hc hS h1
  go_enter Try.func14, Try.ntmps14
  go_wp2_with fail
  refine (G.out w).mono ?_
  rintro e w2 ⟨rfl, hb⟩
  have HR2 := hide (HR.out.below hb)
  have HB := hide hb
  have hgs : g < w.heap.size := HR.out.ltg
  have c0b : w2.cell? ⟨x, 0, none⟩ = some (.slice (some ⟨g, 0, none⟩) L.length cap) := (World.cell?_of_block (hb.block x (World.block_lt_of_cell? w _ c0))).trans c0
  have hcellb : w2.cell? ⟨g, k, none⟩ = some (.string S) := (World.cell?_of_block (hb.block g hgs)).trans hcell
  have hfb : w2.frozen? ⟨g, k, none⟩ = false := (World.frozen?_of_block (a := ⟨g, k, none⟩) (hb.block g hgs)).trans hf
  clear hb
  go_wp2_with fail
  go_ret
  rw [show ((a : Int)).toNat = a from rfl]
  exact ⟨rfl, HR2.out.set k _, (Turned.of_below (S := fun k => k = g) HB.out).set (fun _ => rfl) _⟩

theorem ref_write_over (w : World) (x g : Nat) (L : List ByteArray) (h : RefIs w x g L) (k : Nat) (S : ByteArray) (hS : L[k]? = some S) (a : Int) (t : ByteArray) (hs : S.size ≤ 128) (h1 : ¬ (0 ≤ a ∧ a ≤ S.size ∧ (t.size : Int) ≤ S.size - a)) :
    Calls Try.prog 14 #[.pointer (some ⟨x, 0, none⟩), .int .i64 k, .int .i64 a, .string t] w fun e w' => e = .returned (.int .i64 9) ∧ w = w' := by
  have hcell := h.cell hS
  have hk : k < L.length := (List.getElem?_eq_some_iff.1 hS).1
  have G := hide (ref_put_bad S a t (by omega) h1)
  obtain ⟨cap, cur, hx, hg, hc, hc1, hc2, hc3⟩ := h
  have c0 := hx.cell 0
  simp at c0
  have D0 : decide ((L.length : Int) ≤ k) = false := decide_eq_false (by omega)
  have D1 : decide (L.length ≤ k) = false := decide_eq_false (by omega)
  unfold maxLen at hc2
  clear hx hg hc hS h1
  go_enter Try.func14, Try.ntmps14
  go_wp2_with fail
  refine (G.out w).mono ?_
  rintro e w2 ⟨rfl, rfl⟩
  go_wp2_with fail
  go_ret
  exact ⟨rfl, rfl⟩

theorem ref_writes (w : World) (x g : Nat) (L : List ByteArray) (h : RefIs w x g L) (size : Int) (hsz : ∀ S, S ∈ L → (S.size : Int) = size) (hs1 : size ≤ 128) (s a : Int) (t : ByteArray) :
    Calls Try.prog 14 #[.pointer (some ⟨x, 0, none⟩), .int .i64 s, .int .i64 a, .string t] w fun e w' => e = .returned (.int .i64 (writeCode size L.length s a t)) ∧
      RefIs w' x g (if writeCode size L.length s a t = 0 then L.set s.toNat (putText (L[s.toNat]?.getD ⟨#[]⟩) a.toNat t) else L) ∧ Turned (fun k => k = g) w w' := by
  unfold writeCode
  by_cases h0 : 0 ≤ s ∧ s < L.length
  · obtain ⟨k, rfl⟩ := Int.eq_ofNat_of_zero_le h0.1
    have hk : k < L.length := by omega
    obtain ⟨S, hS⟩ : ∃ S, L[k]? = some S := ⟨_, List.getElem?_eq_getElem hk⟩
    have hm := hsz S (List.mem_of_getElem? hS)
    by_cases h1 : 0 ≤ a ∧ a ≤ size ∧ (t.size : Int) ≤ size - a
    · rw [if_pos h0, if_pos h1, if_pos rfl, show ((k : Int)).toNat = k from rfl, hS]
      exact ref_write w x g L h k S hS a t (by omega) (by rw [hm]; exact h1)
    · rw [if_pos h0, if_neg h1, if_neg (by decide)]
      exact (ref_write_over w x g L h k S hS a t (by omega) (by rw [hm]; exact h1)).mono fun e w' ⟨he, hw⟩ => hw ▸ ⟨he, h, Turned.refl _ _⟩
  · rw [if_neg h0, if_neg (by decide)]
    exact (ref_write_none w x g L h s a t h0).mono fun e w' ⟨he, hw⟩ => ⟨he, h.below hw, Turned.of_below hw⟩

theorem ref_find (w : World) (x g : Nat) (L : List ByteArray) (h : RefIs w x g L) (key : ByteArray) (hk : key.size ≤ 9223372036854775807) :
    Calls Try.prog 16 #[.pointer (some ⟨x, 0, none⟩), .string key] w fun e w' => e = .returned (.tuple #[.int .i64 (findOf key L.length).1, .int .i64 (findOf key L.length).2]) ∧ w = w' := by
  have G := ref_get key 0 4 hk
  obtain ⟨cap, cur, hx, hg, hc, hc1, hc2, hc3⟩ := h
  have c0 := hx.cell 0
  simp at c0
  unfold maxLen at hc2
  have hL : L.length ≤ 9223372036854775807 := by omega
  clear hx hg hc
  unfold findOf
  by_cases h4 : key.size = 4
  · rw [if_pos h4]
    have hr := numAt_range key 0 4
    rw [wordGet_key h4] at G
    have G := hide G
    have K1 : decide ((key.size : Int) = 4) = true := decide_eq_true (by omega)
    have W2 : IntKind.u64.wrap (L.length : Int) = L.length := wrap_u64 (by omega) (by omega)
    by_cases hl : numAt key 0 4 < L.length
    · rw [if_pos hl]
      generalize numAt key 0 4 = y at *
      have W1 : IntKind.i64.wrap y = y := wrap_i64 (by omega) (by omega)
      have D1 : decide ((L.length : Int) ≤ y) = false := decide_eq_false (by omega)
      go_enter Try.func16, Try.ntmps16
      go_wp2_with fail
      refine (G.out w).mono ?_
      rintro e w2 ⟨rfl, rfl⟩
      go_wp2_with fail
      go_ret2
      exact ⟨rfl, rfl⟩
    · rw [if_neg hl]
      generalize numAt key 0 4 = y at *
      have D1 : decide ((L.length : Int) ≤ y) = true := decide_eq_true (by omega)
      go_enter Try.func16, Try.ntmps16
      go_wp2_with fail
      refine (G.out w).mono ?_
      rintro e w2 ⟨rfl, rfl⟩
      go_wp2_with fail
      go_ret2
      exact ⟨rfl, rfl⟩
  · rw [if_neg h4]
    have K1 : decide ((key.size : Int) = 4) = false := decide_eq_false (by omega)
    clear G
    go_enter Try.func16, Try.ntmps16
    go_wp2_with fail
    go_ret2
    exact ⟨rfl, rfl⟩

theorem ref_new_bad (w : World) (size n : Int) (h : ¬ (1 ≤ size ∧ size ≤ 128 ∧ 1 ≤ n ∧ n ≤ 256)) :
    Calls Try.prog 10 #[.int .i64 size, .int .i64 n] w fun e w' => e = .returned (.pointer none) ∧ w = w' := by
  by_cases D0 : size < 1
  · go_enter Try.func10, Try.ntmps10
    go_wp2
    go_ret
    exact ⟨rfl, rfl⟩
  · by_cases D1 : 128 < size
    · go_enter Try.func10, Try.ntmps10
      go_wp2
      go_ret
      exact ⟨rfl, rfl⟩
    · by_cases D2 : n < 1
      · go_enter Try.func10, Try.ntmps10
        go_wp2
        go_ret
        exact ⟨rfl, rfl⟩
      · have D3 : 256 < n := by omega
        go_enter Try.func10, Try.ntmps10
        go_wp2
        go_ret
        exact ⟨rfl, rfl⟩

end Go.Proofs.Ytjfcpajajaigfaa
