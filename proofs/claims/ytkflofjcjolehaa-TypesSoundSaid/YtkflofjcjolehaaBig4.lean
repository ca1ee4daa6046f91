/- Types: lemmas on what the functions that the laws reach answer. No conditions of their own beyond those that each theorem states. -/
import Derived.Test.YtkflofjcjolehaaProg
import Derived.Test.YtkflofjcjolehaaWWords
import Derived.Test.YtkflofjcjolehaaBig0
import Derived.Test.YtkflofjcjolehaaBig1
import Derived.Test.YtkflofjcjolehaaBig2
import Derived.Test.YtkflofjcjolehaaBig3
import Derived.WalkKit
import Derived.Handy
/-! Types: fields and types as plain Lean, as memory holds them; the library's IndexFunc, ContainsFunc at fields, at types, at numbers, whatever the closure. -/
namespace Go.Proofs.Ytkflofjcjolehaa
open Go.RowKit Go.Proofs.YtkflofjcjolehaaW.PrintWords
set_option maxHeartbeats 4000000
set_option maxRecDepth 100000
set_option linter.unusedSimpArgs false
set_option linter.unusedVariables false

structure Fl where
  nm : ByteArray
  kd : Int
  at_ : Int
  of : Int
  node : Int
structure Tp where
  nm : ByteArray
  sz : Int
  fs : List Fl
def zF : Fl := ⟨⟨#[]⟩, 0, 0, 0, 0⟩
def zT : Tp := ⟨⟨#[]⟩, 0, []⟩
def kF : Kd Fl := Kd.iso (Kd.pair Kd.string (Kd.pair (Kd.int .u8) (Kd.pair (Kd.int .i64) (Kd.pair (Kd.int .i64) (Kd.int .i64))))) (fun x : Fl => (x.nm, x.kd, x.at_, x.of, x.node))
def kT : Kd Tp := Kd.iso (Kd.pair Kd.string (Kd.pair (Kd.int .i64) (Kd.slice 46 kF))) (fun x : Tp => (x.nm, x.sz, x.fs))
def Fl.cells (x : Fl) : List Value := [.string x.nm, .int .u8 x.kd, .int .i64 x.at_, .int .i64 x.of, .int .i64 x.node]
def Fl.val (x : Fl) : Value := .agg #[.string x.nm, .int .u8 x.kd, .int .i64 x.at_, .int .i64 x.of, .int .i64 x.node]

theorem kF_open {w : World} {x : Fl} {cs : List Value} (h : kF.K w x cs) : cs = x.cells := by
  obtain ⟨_, _, rfl, rfl, ⟨_, _, rfl, rfl, ⟨_, _, rfl, rfl, ⟨_, _, rfl, rfl, rfl⟩⟩⟩⟩ := h
  exact rfl
theorem kT_open {w : World} {x : Tp} {cs : List Value} (h : kT.K w x cs) : ∃ A2 c2, cs = [.string x.nm, .int .i64 x.sz, .slice A2 x.fs.length c2] ∧ x.fs.length ≤ c2 ∧ kF.C w A2 x.fs.length x.fs := by
  obtain ⟨_, _, rfl, rfl, ⟨_, _, rfl, rfl, ⟨A2, c2, rfl, l2, g2⟩⟩⟩ := h
  exact ⟨A2, c2, rfl, l2, g2⟩

theorem C_of_C {α β : Type} {d : Kd α} {d' : Kd β} (f : α → β) (hs : d.sz = d'.sz) {w : World} (h : ∀ x cs, d.K w x cs → d'.K w (f x) cs) {A : Option Addr} {n : Nat} {xs : List α} (hc : d.C w A n xs) : d'.C w A n (xs.map f) := by
  refine ⟨by rw [List.length_map]; exact hc.1, hc.2.1, fun hn => ?_⟩
  obtain ⟨ad, e, hx⟩ := hc.2.2 hn
  refine ⟨ad, e, fun j p hj => ?_⟩
  rw [List.getElem?_map] at hj
  obtain ⟨x, hx', rfl⟩ := Option.map_eq_some_iff.1 hj
  obtain ⟨c, h1, h2, h3⟩ := hx j x hx'
  exact ⟨c, h1.trans hs, h _ _ h2, by rw [← hs]; exact h3⟩

theorem kd_rows {α : Type} {d : Kd α} {w : World} {A : Option Addr} {n : Nat} {xs : List α} (h : d.C w A n xs) (hpos : 0 < d.sz) : xs = [] ∨ ∃ b off, A = some ⟨b, off, none⟩ ∧ b < w.heap.size ∧ ∀ (j : Nat) (x : α), xs[j]? = some x → ∃ c, d.K w x c ∧ ∀ i u, c[i]? = some u → w.cell? ⟨b, off + j * d.sz + i, none⟩ = some u := by
  cases xs with
  | nil => exact .inl rfl
  | cons x xs =>
    have hn : 0 < n := by have := h.1; simp at this; omega
    obtain ⟨ad, rfl, hc⟩ := h.2.2 hn
    obtain ⟨c0, l0, hK0, hcell⟩ := hc 0 x rfl
    obtain ⟨u0, hu0⟩ : ∃ u, c0[0]? = some u := ⟨_, List.getElem?_eq_getElem (by omega)⟩
    obtain ⟨hs, hb⟩ := spot_of_cell (hcell 0 u0 hu0)
    obtain ⟨b, off, spot⟩ := ad
    obtain rfl : spot = none := by
      unfold Addr.add at hs
      split at hs <;> simp_all
    replace hb : b < w.heap.size := by
      unfold Addr.add at hb
      split at hb <;> simp_all
    refine .inr ⟨b, off, rfl, hb, fun j y hj => ?_⟩
    obtain ⟨c, _, hK, hcell⟩ := hc j y hj
    refine ⟨c, hK, fun i u hi => ?_⟩
    have hg := hcell i u hi
    have ha : (⟨b, off, none⟩ : Addr).add (j * d.sz + i) = ⟨b, off + j * d.sz + i, none⟩ := by unfold Addr.add; split <;> simp_all [Nat.add_assoc]
    rw [← ha]
    exact hg

/-- A field of a row that is read, wherever the walk has come by now. -/
theorem fl_at {w wr : World} {A : Option Addr} {n : Nat} {l : List Fl} (h : kF.C w A n l) (hb : Below w.heap.size w wr) {k : Nat} {y : Fl} (hk : l[k]? = some y) :
    ∃ b off, A = some ⟨b, off, none⟩ ∧ wr.cell? ⟨b, off + k * 5, none⟩ = some (.string y.nm) ∧ wr.cell? ⟨b, off + k * 5 + 1, none⟩ = some (.int .u8 y.kd) ∧ wr.cell? ⟨b, off + k * 5 + 2, none⟩ = some (.int .i64 y.at_) ∧ wr.cell? ⟨b, off + k * 5 + 3, none⟩ = some (.int .i64 y.of) ∧ wr.cell? ⟨b, off + k * 5 + 4, none⟩ = some (.int .i64 y.node) := by
  rcases kd_rows h (by decide) with rfl | ⟨b, off, rfl, hlt, hx⟩
  · simp at hk
  obtain ⟨c, hK, hc⟩ := hx k y hk
  obtain rfl := kF_open hK
  have g : ∀ i u, y.cells[i]? = some u → wr.cell? ⟨b, off + k * 5 + i, none⟩ = some u := fun i u hu => (hb.cell (p := ⟨b, _, none⟩) hlt).trans (hc i u hu)
  exact ⟨b, off, rfl, g 0 _ rfl, g 1 _ rfl, g 2 _ rfl, g 3 _ rfl, g 4 _ rfl⟩

theorem tp_at {w wr : World} {A : Option Addr} {n : Nat} {l : List Tp} (h : kT.C w A n l) (hb : Below w.heap.size w wr) {k : Nat} {y : Tp} (hk : l[k]? = some y) :
    ∃ b off A2 c2, A = some ⟨b, off, none⟩ ∧ wr.cell? ⟨b, off + k * 3, none⟩ = some (.string y.nm) ∧ wr.cell? ⟨b, off + k * 3 + 1, none⟩ = some (.int .i64 y.sz) ∧ wr.cell? ⟨b, off + k * 3 + 2, none⟩ = some (.slice A2 y.fs.length c2) ∧ y.fs.length ≤ c2 ∧ kF.C w A2 y.fs.length y.fs := by
  rcases kd_rows h (by decide) with rfl | ⟨b, off, rfl, hlt, hx⟩
  · simp at hk
  obtain ⟨c, hK, hc⟩ := hx k y hk
  obtain ⟨A2, c2, rfl, hl, hC⟩ := kT_open hK
  have g : ∀ i u, [Value.string y.nm, .int .i64 y.sz, .slice A2 y.fs.length c2][i]? = some u → wr.cell? ⟨b, off + k * 3 + i, none⟩ = some u := fun i u hu => (hb.cell (p := ⟨b, _, none⟩) hlt).trans (hc i u hu)
  exact ⟨b, off, A2, c2, rfl, g 0 _ rfl, g 1 _ rfl, g 2 _ rfl, hl, hC⟩

theorem int_at {q : IntKind} {w wr : World} {A : Option Addr} {n : Nat} {l : List Int} (h : (Kd.int q).C w A n l) (hb : Below w.heap.size w wr) {k : Nat} {y : Int} (hk : l[k]? = some y) :
    ∃ b off, A = some ⟨b, off, none⟩ ∧ wr.cell? ⟨b, off + k, none⟩ = some (.int q y) := by
  rcases kd_rows h (show 0 < (Kd.int q).sz from Nat.one_pos) with rfl | ⟨b, off, rfl, hlt, hx⟩
  · simp at hk
  obtain ⟨c, hK, hc⟩ := hx k y hk
  have e : c = [.int q y] := hK
  subst e
  refine ⟨b, off, rfl, (hb.cell (p := ⟨b, _, none⟩) hlt).trans ?_⟩
  have := hc 0 _ rfl
  rwa [show (Kd.int q).sz = 1 from rfl, Nat.mul_one, Nat.add_zero] at this

/-- The first place of a list at which a test holds; -1: there is none. -/
def idxI {α : Type} (p : α → Bool) (l : List α) : Int := match l.findIdx? p with | some k => (k : Int) | none => -1

theorem idxI_none {α : Type} {p : α → Bool} {l : List α} (h : ∀ (j : Nat) (y : α), l[j]? = some y → p y = false) : idxI p l = -1 := by
  unfold idxI
  rw [List.findIdx?_eq_none_iff.2 (fun x hx => by
    obtain ⟨j, hj⟩ := List.getElem?_of_mem hx
    rw [h j x hj])]

theorem idxI_some {α : Type} {p : α → Bool} {l : List α} {k : Nat} {y : α} (h : ∀ (j : Nat) (z : α), j < k → l[j]? = some z → p z = false) (hk : l[k]? = some y) (hy : p y = true) : idxI p l = k := by
  unfold idxI
  have hlt := (List.getElem?_eq_some_iff.1 hk).1
  have : l.findIdx? p = some k := by
    rw [List.findIdx?_eq_some_iff_getElem]
    refine ⟨hlt, ?_, fun j hj => ?_⟩
    · have := (List.getElem?_eq_some_iff.1 hk).2
      rw [this, hy]
    · rw [h j _ hj (List.getElem?_eq_getElem (by omega))]; simp
  rw [this]

theorem idxI_any {α : Type} (p : α → Bool) (l : List α) : decide (idxI p l ≥ 0) = l.any p := by
  unfold idxI
  cases h : l.findIdx? p with
  | none =>
    rw [List.findIdx?_eq_none_iff] at h
    have : l.any p = false := by rw [List.any_eq_false]; exact fun x hx => by rw [h x hx]; simp
    rw [this]; rfl
  | some k =>
    rw [List.findIdx?_eq_some_iff_getElem] at h
    obtain ⟨hk, hp, _⟩ := h
    have : l.any p = true := List.any_eq_true.2 ⟨_, List.getElem_mem hk, hp⟩
    rw [this]
    exact decide_eq_true (show ((k : Int)) ≥ 0 by omega)

/-- IndexFunc at fields. -/
theorem fl_indexFunc (g : Nat) (lb : Array Value) (eg : ∀ args w, (callFunc g args).run Try.prog w = .ok (.enter g args) w) (p : Fl → Bool) (w : World) (A : Option Addr) (c : Nat) (l : List Fl) (n : Nat) (hl : l.length = n) (hC : kF.C w A n l)
    (hp : ∀ (j : Nat) (y : Fl) (wr : World), l[j]? = some y → Below w.heap.size w wr → Calls Try.prog g (#[y.val] ++ lb) wr fun e w' => e = .returned (.bool (p y)) ∧ Below w.heap.size w w') :
    Calls Try.prog 55 #[.slice A n c, .func (.func g) #[] lb] w fun e w' => e = .returned (.int .i64 (idxI p l)) ∧ Below w.heap.size w w' := by
  have hn : (n : Int) ≤ 9223372036854775807 := by have := hC.2.1; omega
  go_enter Try.func55, Try.ntmps55
  go_wp2_with fail
  go_loopw [8] (fun i wr => ∃ (k : Nat), k ≤ n ∧ i = .int .i64 k ∧ (∀ j z, j < k → l[j]? = some z → p z = false) ∧ Below w.heap.size w wr) (fun i _ => n - (intOf i).toNat)
  case atStart => exact ⟨0, Nat.zero_le _, rfl, fun j z hj => by omega, Below.refl _ w⟩
  case round =>
    obtain ⟨k, hk, rfl, hno, hB⟩ := hrel
    by_cases hd : k < n
    · have hd' : (k : Int) < n := by omega
      obtain ⟨y, hy⟩ : ∃ x, l[k]? = some x := ⟨_, List.getElem?_eq_getElem (by rw [hl]; exact hd)⟩
      obtain ⟨cb, off, rfl, e0, e1, e2, e3, e4⟩ := fl_at hC hB hy
      have hd2 : decide ((k : Int) < n) = true := decide_eq_true hd'
      have hk0 : (0 : Int) ≤ k := by omega
      have hq := hp k y wr hy hB
      cases ht : p y with
      | true =>
        rw [ht] at hq
        go_wp2_with fail
        refine hq.mono ?_
        rintro e w1 ⟨rfl, hb1⟩
        go_wp2_with fail
        go_ret
        exact ⟨by rw [idxI_some hno hy ht]; rfl, hb1⟩
      | false =>
        rw [ht] at hq
        go_wp2_with fail
        refine hq.mono ?_
        rintro e w1 ⟨rfl, hb1⟩
        go_wp2_with fail
        go_roundw
        case rel =>
          refine ⟨k + 1, by omega, by simp, fun j z hj hz => ?_, hb1⟩
          rcases Nat.lt_or_ge j k with h | h
          · exact hno j z h hz
          · have : j = k := by omega
            subst this
            rw [hy] at hz
            cases hz
            exact ht
        case measure => simp [intOf]; omega
    · have hkn : k = n := by omega
      subst hkn
      have hd2 : decide ((k : Int) < k) = false := by simp
      go_wp2_with fail
      go_ret
      exact ⟨by rw [idxI_none (fun j z hz => hno j z (by have := (List.getElem?_eq_some_iff.1 hz).1; omega) hz)]; rfl, hB⟩
end Go.Proofs.Ytkflofjcjolehaa

/-! Types: the library at types, at numbers; ContainsFunc, Contains; found, Size, meets. -/
namespace Go.Proofs.Ytkflofjcjolehaa
open Go.RowKit Go.Proofs.YtkflofjcjolehaaW.PrintWords
set_option maxHeartbeats 4000000
set_option maxRecDepth 100000
set_option linter.unusedSimpArgs false
set_option linter.unusedVariables false

/-- IndexFunc at types. -/
theorem tp_indexFunc (g : Nat) (lb : Array Value) (eg : ∀ args w, (callFunc g args).run Try.prog w = .ok (.enter g args) w) (p : Tp → Bool) (w : World) (A : Option Addr) (c : Nat) (l : List Tp) (n : Nat) (hl : l.length = n) (hC : kT.C w A n l)
    (hp : ∀ (j : Nat) (y : Tp) (A2 : Option Addr) (c2 : Nat) (wr : World), l[j]? = some y → Below w.heap.size w wr → y.fs.length ≤ c2 → kF.C w A2 y.fs.length y.fs → Calls Try.prog g (#[.agg #[.string y.nm, .int .i64 y.sz, .slice A2 y.fs.length c2]] ++ lb) wr fun e w' => e = .returned (.bool (p y)) ∧ Below w.heap.size w w') :
    Calls Try.prog 50 #[.slice A n c, .func (.func g) #[] lb] w fun e w' => e = .returned (.int .i64 (idxI p l)) ∧ Below w.heap.size w w' := by
  have hn : (n : Int) ≤ 9223372036854775807 := by have := hC.2.1; omega
  go_enter Try.func50, Try.ntmps50
  go_wp2_with fail
  go_loopw [8] (fun i wr => ∃ (k : Nat), k ≤ n ∧ i = .int .i64 k ∧ (∀ j z, j < k → l[j]? = some z → p z = false) ∧ Below w.heap.size w wr) (fun i _ => n - (intOf i).toNat)
  case atStart => exact ⟨0, Nat.zero_le _, rfl, fun j z hj => by omega, Below.refl _ w⟩
  case round =>
    obtain ⟨k, hk, rfl, hno, hB⟩ := hrel
    by_cases hd : k < n
    · have hd' : (k : Int) < n := by omega
      obtain ⟨y, hy⟩ : ∃ x, l[k]? = some x := ⟨_, List.getElem?_eq_getElem (by rw [hl]; exact hd)⟩
      obtain ⟨cb, off, A2, c2, rfl, e0, e1, e2, hl2, hC2⟩ := tp_at hC hB hy
      have hd2 : decide ((k : Int) < n) = true := decide_eq_true hd'
      have hk0 : (0 : Int) ≤ k := by omega
      have hq := hp k y A2 c2 wr hy hB hl2 hC2
      cases ht : p y with
      | true =>
        rw [ht] at hq
        go_wp2_with fail
        refine hq.mono ?_
        rintro e w1 ⟨rfl, hb1⟩
        go_wp2_with fail
        go_ret
        exact ⟨by rw [idxI_some hno hy ht]; rfl, hb1⟩
      | false =>
        rw [ht] at hq
        go_wp2_with fail
        refine hq.mono ?_
        rintro e w1 ⟨rfl, hb1⟩
        go_wp2_with fail
        go_roundw
        case rel =>
          refine ⟨k + 1, by omega, by simp, fun j z hj hz => ?_, hb1⟩
          rcases Nat.lt_or_ge j k with h | h
          · exact hno j z h hz
          · have : j = k := by omega
            subst this
            rw [hy] at hz
            cases hz
            exact ht
        case measure => simp [intOf]; omega
    · have hkn : k = n := by omega
      subst hkn
      have hd2 : decide ((k : Int) < k) = false := by simp
      go_wp2_with fail
      go_ret
      exact ⟨by rw [idxI_none (fun j z hz => hno j z (by have := (List.getElem?_eq_some_iff.1 hz).1; omega) hz)]; rfl, hB⟩
/-- IndexFunc at numbers. -/
theorem int_indexFunc (g : Nat) (lb : Array Value) (eg : ∀ args w, (callFunc g args).run Try.prog w = .ok (.enter g args) w) (p : Int → Bool) (w : World) (A : Option Addr) (c : Nat) (l : List Int) (n : Nat) (hl : l.length = n) (hC : (Kd.int .i64).C w A n l)
    (hp : ∀ (j : Nat) (y : Int) (wr : World), l[j]? = some y → Below w.heap.size w wr → Calls Try.prog g (#[Value.int .i64 y] ++ lb) wr fun e w' => e = .returned (.bool (p y)) ∧ Below w.heap.size w w') :
    Calls Try.prog 77 #[.slice A n c, .func (.func g) #[] lb] w fun e w' => e = .returned (.int .i64 (idxI p l)) ∧ Below w.heap.size w w' := by
  have hn : (n : Int) ≤ 9223372036854775807 := by have := hC.2.1; omega
  go_enter Try.func77, Try.ntmps77
  go_wp2_with fail
  go_loopw [8] (fun i wr => ∃ (k : Nat), k ≤ n ∧ i = .int .i64 k ∧ (∀ j z, j < k → l[j]? = some z → p z = false) ∧ Below w.heap.size w wr) (fun i _ => n - (intOf i).toNat)
  case atStart => exact ⟨0, Nat.zero_le _, rfl, fun j z hj => by omega, Below.refl _ w⟩
  case round =>
    obtain ⟨k, hk, rfl, hno, hB⟩ := hrel
    by_cases hd : k < n
    · have hd' : (k : Int) < n := by omega
      obtain ⟨y, hy⟩ : ∃ x, l[k]? = some x := ⟨_, List.getElem?_eq_getElem (by rw [hl]; exact hd)⟩
      obtain ⟨cb, off, rfl, e0⟩ := int_at hC hB hy
      have hd2 : decide ((k : Int) < n) = true := decide_eq_true hd'
      have hk0 : (0 : Int) ≤ k := by omega
      have hq := hp k y wr hy hB
      cases ht : p y with
      | true =>
        rw [ht] at hq
        go_wp2_with fail
        refine hq.mono ?_
        rintro e w1 ⟨rfl, hb1⟩
        go_wp2_with fail
        go_ret
        exact ⟨by rw [idxI_some hno hy ht]; rfl, hb1⟩
      | false =>
        rw [ht] at hq
        go_wp2_with fail
        refine hq.mono ?_
        rintro e w1 ⟨rfl, hb1⟩
        go_wp2_with fail
        go_roundw
        case rel =>
          refine ⟨k + 1, by omega, by simp, fun j z hj hz => ?_, hb1⟩
          rcases Nat.lt_or_ge j k with h | h
          · exact hno j z h hz
          · have : j = k := by omega
            subst this
            rw [hy] at hz
            cases hz
            exact ht
        case measure => simp [intOf]; omega
    · have hkn : k = n := by omega
      subst hkn
      have hd2 : decide ((k : Int) < k) = false := by simp
      go_wp2_with fail
      go_ret
      exact ⟨by rw [idxI_none (fun j z hz => hno j z (by have := (List.getElem?_eq_some_iff.1 hz).1; omega) hz)]; rfl, hB⟩
/-- ContainsFunc at fields. -/
theorem fl_containsFunc (g : Nat) (lb : Array Value) (eg : ∀ args w, (callFunc g args).run Try.prog w = .ok (.enter g args) w) (p : Fl → Bool) (w : World) (A : Option Addr) (c : Nat) (l : List Fl) (n : Nat) (hl : l.length = n) (hC : kF.C w A n l)
    (hp : ∀ (j : Nat) (y : Fl) (wr : World), l[j]? = some y → Below w.heap.size w wr → Calls Try.prog g (#[y.val] ++ lb) wr fun e w' => e = .returned (.bool (p y)) ∧ Below w.heap.size w w') :
    Calls Try.prog 46 #[.slice A n c, .func (.func g) #[] lb] w fun e w' => e = .returned (.bool (l.any p)) ∧ Below w.heap.size w w' := by
  rw [← idxI_any p l]
  have hq := fl_indexFunc g lb eg p w A c l n hl hC hp
  obtain ⟨r, hr⟩ : ∃ r, idxI p l = r := ⟨_, rfl⟩
  rw [hr] at hq ⊢
  clear hr
  go_enter Try.func46, Try.ntmps46
  go_wp2_with fail
  refine hq.mono ?_
  rintro e w1 ⟨rfl, hb1⟩
  go_wp2_with fail
  go_ret
  exact ⟨rfl, hb1⟩

theorem int_containsFunc (g : Nat) (lb : Array Value) (eg : ∀ args w, (callFunc g args).run Try.prog w = .ok (.enter g args) w) (p : Int → Bool) (w : World) (A : Option Addr) (c : Nat) (l : List Int) (n : Nat) (hl : l.length = n) (hC : (Kd.int .i64).C w A n l)
    (hp : ∀ (j : Nat) (y : Int) (wr : World), l[j]? = some y → Below w.heap.size w wr → Calls Try.prog g (#[Value.int .i64 y] ++ lb) wr fun e w' => e = .returned (.bool (p y)) ∧ Below w.heap.size w w') :
    Calls Try.prog 59 #[.slice A n c, .func (.func g) #[] lb] w fun e w' => e = .returned (.bool (l.any p)) ∧ Below w.heap.size w w' := by
  rw [← idxI_any p l]
  have hq := int_indexFunc g lb eg p w A c l n hl hC hp
  obtain ⟨r, hr⟩ : ∃ r, idxI p l = r := ⟨_, rfl⟩
  rw [hr] at hq ⊢
  clear hr
  go_enter Try.func59, Try.ntmps59
  go_wp2_with fail
  refine hq.mono ?_
  rintro e w1 ⟨rfl, hb1⟩
  go_wp2_with fail
  go_ret
  exact ⟨rfl, hb1⟩

/-- Index of a number in a row of bytes. -/
theorem u8_index (w : World) (A : Option Addr) (c : Nat) (l : List Int) (n : Nat) (a : Int) (hl : l.length = n) (hC : (Kd.int .u8).C w A n l) :
    Calls Try.prog 86 #[.slice A n c, .int .u8 a] w fun e w' => e = .returned (.int .i64 (idxI (fun x => a == x) l)) ∧ Below w.heap.size w w' := by
  have hn : (n : Int) ≤ 9223372036854775807 := by have := hC.2.1; omega
  go_enter Try.func86, Try.ntmps86
  go_wp2_with fail
  go_loopw [8] (fun i wr => ∃ (k : Nat), k ≤ n ∧ i = .int .i64 k ∧ (∀ j z, j < k → l[j]? = some z → (a == z) = false) ∧ Below w.heap.size w wr) (fun i _ => n - (intOf i).toNat)
  case atStart => exact ⟨0, Nat.zero_le _, rfl, fun j z hj => by omega, Below.refl _ w⟩
  case round =>
    obtain ⟨k, hk, rfl, hno, hB⟩ := hrel
    by_cases hd : k < n
    · have hd' : (k : Int) < n := by omega
      obtain ⟨y, hy⟩ : ∃ x, l[k]? = some x := ⟨_, List.getElem?_eq_getElem (by rw [hl]; exact hd)⟩
      obtain ⟨cb, off, rfl, e0⟩ := int_at hC hB hy
      have hd2 : decide ((k : Int) < n) = true := decide_eq_true hd'
      have hk0 : (0 : Int) ≤ k := by omega
      cases ht : (a == y) with
      | true =>
        have ht' : (y == a) = true := by simpa using (beq_iff_eq.1 ht).symm
        go_wp2_with fail
        go_ret
        exact ⟨by rw [idxI_some (p := fun x => a == x) hno hy ht]; rfl, hB⟩
      | false =>
        have ht' : (y == a) = false := by simpa using fun h => (beq_eq_false_iff_ne.1 ht) h.symm
        go_wp2_with fail
        go_roundw
        case rel =>
          refine ⟨k + 1, by omega, by simp, fun j z hj hz => ?_, hB⟩
          rcases Nat.lt_or_ge j k with h | h
          · exact hno j z h hz
          · have : j = k := by omega
            subst this
            rw [hy] at hz
            cases hz
            exact ht
        case measure => simp [intOf]; omega
    · have hkn : k = n := by omega
      subst hkn
      have hd2 : decide ((k : Int) < k) = false := by simp
      go_wp2_with fail
      go_ret
      exact ⟨by rw [idxI_none (p := fun x => a == x) (fun j z hz => hno j z (by have := (List.getElem?_eq_some_iff.1 hz).1; omega) hz)]; rfl, hB⟩

theorem u8_contains (w : World) (A : Option Addr) (c : Nat) (l : List Int) (n : Nat) (a : Int) (hl : l.length = n) (hC : (Kd.int .u8).C w A n l) :
    Calls Try.prog 76 #[.slice A n c, .int .u8 a] w fun e w' => e = .returned (.bool (l.any fun x => a == x)) ∧ Below w.heap.size w w' := by
  rw [← idxI_any (fun x => a == x) l]
  have hq := u8_index w A c l n a hl hC
  obtain ⟨r, hr⟩ : ∃ r, idxI (fun x => a == x) l = r := ⟨_, rfl⟩
  rw [hr] at hq ⊢
  clear hr
  go_enter Try.func76, Try.ntmps76
  go_wp2_with fail
  refine hq.mono ?_
  rintro e w1 ⟨rfl, hb1⟩
  go_wp2_with fail
  go_ret
  exact ⟨rfl, hb1⟩

theorem ty_found (w : World) (r : Int) : Calls Try.prog 49 #[.int .i64 r] w fun e w' => e = .returned (.tuple #[.int .i64 (max r 0), .bool (decide (r ≥ 0))]) ∧ w = w' := by
  go_enter Try.func49, Try.ntmps49
  go_wp2_with fail
  · go_ret2
    refine ⟨?_, rfl⟩
    rw [show max r 0 = 0 by omega]
    rfl
  · go_ret2
    refine ⟨?_, rfl⟩
    rw [show max r 0 = r by omega]
    rfl

/-- How many bytes a field of a kind has. -/
def szK (k : Int) : Int := if k = 1 ∨ k = 6 ∨ k = 7 then 8 else if k = 2 ∨ k = 3 ∨ k = 4 ∨ k = 5 then 16 else 0

theorem szK_range (k : Int) : 0 ≤ szK k ∧ szK k ≤ 16 := by
  unfold szK
  split
  · omega
  · split <;> omega

theorem ty_size (w : World) (k : Int) : Calls Try.prog 21 #[.int .u8 k] w fun e w' => e = .returned (.int .i64 (szK k)) ∧ w = w' := by
  by_cases h : k = 1 ∨ k = 6 ∨ k = 7 ∨ k = 2 ∨ k = 3 ∨ k = 4 ∨ k = 5
  · rcases h with rfl | rfl | rfl | rfl | rfl | rfl | rfl <;>
    · go_enter Try.func21, Try.ntmps21
      go_wp2_with fail
      go_ret
      exact ⟨rfl, rfl⟩
  · have e : szK k = 0 := by
      unfold szK
      rw [if_neg (by omega), if_neg (by omega)]
    rw [e]
    have h1 : (k == 1) = false := beq_eq_false_iff_ne.2 (by omega)
    have h2 : (k == 2) = false := beq_eq_false_iff_ne.2 (by omega)
    have h3 : (k == 3) = false := beq_eq_false_iff_ne.2 (by omega)
    have h4 : (k == 4) = false := beq_eq_false_iff_ne.2 (by omega)
    have h5 : (k == 5) = false := beq_eq_false_iff_ne.2 (by omega)
    have h6 : (k == 6) = false := beq_eq_false_iff_ne.2 (by omega)
    have h7 : (k == 7) = false := beq_eq_false_iff_ne.2 (by omega)
    clear h e
    go_enter Try.func21, Try.ntmps21
    go_wp2_with fail
    go_ret
    exact ⟨rfl, rfl⟩
end Go.Proofs.Ytkflofjcjolehaa
