import Derived.Test.YtagminbfboncoaaListB
/-! Package list: Peek. -/
namespace Go.Proofs.Ytagminbfboncoaa
open Go.RowKit Go.Maps
set_option maxHeartbeats 1000000
set_option maxRecDepth 100000

/-- The place of the first, or the last one. -/
def endAt (hs : List (Int × Int)) (front : Bool) : Nat := if front then 0 else hs.length - 1
/-- The first, or the last one. -/
def endOf (hs : List (Int × Int)) (front : Bool) : Option (Int × Int) := hs[endAt hs front]?
def hv (q : Int × Int) : Value := .agg #[.int .i64 q.1, .int .u64 q.2]

theorem endAt_lt {hs : List (Int × Int)} (h : hs ≠ []) (front : Bool) : endAt hs front < hs.length := by
  have : 0 < hs.length := List.length_pos_iff.2 h
  unfold endAt
  split <;> omega

theorem list_peek (N : Nat) (w : World) (b mb : Nat) (hs : List (Int × Int)) (h : ListIs N w b mb hs) (front : Bool) :
    Calls Try.prog 18 #[.pointer (some ⟨b, 0, none⟩), .bool front] w fun e w' =>
      e = .returned (.tuple #[hv ((endOf hs front).getD (0, 0)), .bool (endOf hs front).isSome]) ∧ Below w.heap.size w w' := by
  obtain ⟨ks, m, _, _, hb, hc, _⟩ := h
  have HB := hide hb
  by_cases he : hs = []
  · subst he
    obtain rfl : ks = [] := List.length_eq_zero_iff.1 hc.1
    have HE := hide (fun W (h : Has W b 58 #[.map (some mb), .pointer none, .pointer none]) => list_end W b mb _ _ h front)
    have e2 : (if front then (.pointer none : Value) else .pointer none) = .pointer none := by cases front <;> rfl
    rw [e2] at HE
    clear e2 hc hb
    simp only [endOf, List.getElem?_nil, Option.getD_none, Option.isSome_none, hv]
    go_enter Try.func18, Try.ntmps18
    go_wp2_with fail
    refine (HE.out _ (HB.out.alloc _)).mono ?_
    rintro e w1 ⟨rfl, rfl⟩
    go_wp2_with fail
    go_returns
    exact ⟨rfl, by go_grown⟩
  · have hlt := endAt_lt he front
    obtain ⟨q, hq⟩ : ∃ q, hs[endAt hs front]? = some q := ⟨_, List.getElem?_eq_getElem hlt⟩
    obtain ⟨k, hk⟩ : ∃ k, ks[endAt hs front]? = some k := ⟨_, List.getElem?_eq_getElem (by rw [hc.1]; exact hlt)⟩
    obtain ⟨_, hl⟩ := hc.2.2 _ _ _ hq hk
    have HL := hide hl
    have HE := hide (fun W (h : Has W b 58 #[.map (some mb), lp ks[0]?, lp ks[ks.length - 1]?]) => list_end W b mb _ _ h front)
    have e2 : (if front then lp ks[0]? else lp ks[ks.length - 1]?) = .pointer (some ⟨k, 0, none⟩) := by
      have : (if front then lp ks[0]? else lp ks[ks.length - 1]?) = lp ks[endAt hs front]? := by
        unfold endAt
        rw [hc.1]
        cases front <;> rfl
      rw [this, hk]
      rfl
    rw [e2] at HE
    have e3 : endOf hs front = some q := hq
    rw [e3]
    simp only [Option.getD_some, Option.isSome_some, hv]
    obtain ⟨s, g⟩ := q
    clear e2 e3 hc hb hq hk hl hlt he
    go_enter Try.func18, Try.ntmps18
    go_wp2_with fail
    refine (HE.out _ (HB.out.alloc _)).mono ?_
    rintro e w1 ⟨rfl, rfl⟩
    have c0 : (w.alloc (.cells #[.int .i64 0, .int .u64 0] 29)).cell? ⟨k, 0, none⟩ = some (.int .i64 s) := (HL.out.alloc _).cell 0
    have c1 : (w.alloc (.cells #[.int .i64 0, .int .u64 0] 29)).cell? ⟨k, 1, none⟩ = some (.int .u64 g) := (HL.out.alloc _).cell 1
    go_wp2_with fail
    go_returns
    exact ⟨rfl, by go_grown⟩

end Go.Proofs.Ytagminbfboncoaa
