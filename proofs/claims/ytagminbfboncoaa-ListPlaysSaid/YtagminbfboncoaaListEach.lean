import Derived.Test.YtagminbfboncoaaListPop
import Derived.Test.YtagminbfboncoaaRange
/-! Package list: the iterator of All. -/
namespace Go.Proofs.Ytagminbfboncoaa
open Go.RowKit Go.Maps Go.Shelf
attribute [local go_sem] Oper.semAt_some
set_option maxHeartbeats 2000000
set_option maxRecDepth 100000
set_option linter.unusedSimpArgs false
set_option linter.unusedVariables false

/-- The links, as an iterator reads them. -/
def LinksOk (hs : List (Int × Int)) (ks : List Nat) (W : World) : Prop := ∀ i h k, hs[i]? = some h → ks[i]? = some k → Has W k 60 #[.int .i64 h.1, .int .u64 h.2, lp ks[i + 1]?, lp (ahead ks i)]

/-- What a round keeps: all links. -/
def KeepLinks (W W' : World) : Prop := ∀ k cs, Has W k 60 cs → Has W' k 60 cs

theorem LinksOk.keep {hs : List (Int × Int)} {ks : List Nat} {W W' : World} (h : LinksOk hs ks W) (hk : KeepLinks W W') : LinksOk hs ks W' := fun i x k h1 h2 => hk _ _ (h i x k h1 h2)

def linkIx (ks : List Nat) (n : Nat) : Value → Nat
  | .pointer (some a) => n - ks.idxOf a.block
  | _ => 0

theorem linkIx_at {ks : List Nat} (hn : ks.Nodup) {n i k : Nat} (h : ks[i]? = some k) : linkIx ks n (lp ks[i]?) = n - i := by
  rw [h]
  show n - ks.idxOf k = n - i
  have hi := (List.getElem?_eq_some_iff.1 h).1
  have he := (List.getElem?_eq_some_iff.1 h).2
  rw [← he, hn.idxOf_getElem i hi]

theorem list_each1 (n : Nat) (w0 : World) (bc b mb : Nat) (l : Value) (hs : List (Int × Int)) (ks : List Nat) (hlen : ks.length = hs.length) (hnd : ks.Nodup) (hcap : Has w0 bc 24 #[.pointer (some ⟨b, 0, none⟩)]) (hb : Has w0 b 58 #[.map (some mb), lp ks[0]?, l]) (hlk : LinksOk hs ks w0) :
    SeqOf Fence.wide n Try.prog 28 #[.pointer (some ⟨bc, 0, none⟩)] (fun x : Int × Int => #[hv x]) (fun pre x _ => hs[pre.length]? = some x ∧ pre = hs.take pre.length) (fun _ => KeepLinks) (fun xs _ => xs = hs) (fun _ _ => True) w0 := by
  intro l' J Jx W hW hJ hJx hY h0
  refine callsIn_of_wp Try.func28 rfl trivial ?_ rfl
  simp only [Try.ntmps28, List.size_toArray, List.length_cons, List.length_nil, Nat.reduceAdd, Nat.reduceSub, Array.replicate_succ, Array.replicate_zero, List.push_toArray, List.append_toArray, List.nil_append, List.cons_append]
  have hbW := hb.below hW hb.lt
  have hlW : LinksOk hs ks W := fun i x k h1 h2 => (hlk i x k h1 h2).below hW (hlk i x k h1 h2).lt
  have c0 : W.cell? ⟨bc, 0, none⟩ = some (.pointer (some ⟨b, 0, none⟩)) := (hcap.below hW hcap.lt).cell 0
  gi_wp2
  refine ⟨trivial, fun h => absurd h (by simp [Fence.wide]), ?_⟩
  obtain ⟨V, hV⟩ : ∃ V, V = lp ks[0]? := ⟨_, rfl⟩
  rw [← hV] at hbW
  have HV := hide hV
  clear hV
  refine (callsIn_wide.2 (list_end W b _ _ _ hbW true)).mono ?_
  rintro e w1 ⟨rfl, rfl⟩
  clear c0
  simp only [if_true]
  gi_wp2
  gi_loopw [3] (fun p wr => ∃ pre : List (Int × Int), p = lp ks[pre.length]? ∧ pre = hs.take pre.length ∧ pre.length ≤ hs.length ∧ J pre wr ∧ LinksOk hs ks wr) (fun p _ => linkIx ks hs.length p)
  case atStart => exact ⟨[], HV.out, rfl, Nat.zero_le _, h0, hlW⟩
  case round =>
    obtain ⟨pre, rfl, hpre, hle, hJp, hL⟩ := hrel
    by_cases hd : pre.length < hs.length
    · obtain ⟨x, hx⟩ : ∃ x, hs[pre.length]? = some x := ⟨_, List.getElem?_eq_getElem hd⟩
      obtain ⟨k, hk⟩ : ∃ k, ks[pre.length]? = some k := ⟨_, List.getElem?_eq_getElem (by omega)⟩
      have hc := hL _ _ _ hx hk
      have hm := linkIx_at hnd (n := hs.length) hk
      obtain ⟨fn, tmps, assign, body, hy, hR⟩ := hY pre x wr hJp ⟨hx, hpre⟩
      obtain ⟨s, g⟩ := x
      simp only [hv] at hy
      have d0 : wr.cell? ⟨k, 0, none⟩ = some (.int .i64 s) := hc.cell 0
      have d1 : wr.cell? ⟨k, 1, none⟩ = some (.int .u64 g) := hc.cell 1
      have HM := hide hm
      have HX := hide hx
      have HK := hide hk
      have HP := hide hpre
      have HL := hide hL
      rw [hk]
      simp only [lp, Option.map]
      clear hm hx hk hpre hL hc
      gi_wp2
      refine ⟨fun h => absurd h (by simp [Fence.wide]), ?_⟩
      refine hR.mono ?_
      rintro e W3 (⟨rfl, hJ3, hk3⟩ | ⟨rfl, hJx3⟩)
      · have hL3 := HL.out.keep hk3
        have e2 : W3.cell? ⟨k, 2, none⟩ = some (lp ks[pre.length + 1]?) := (hL3 _ _ _ HX.out HK.out).cell 2
        obtain ⟨V2, hV2⟩ : ∃ V2, V2 = lp ks[pre.length + 1]? := ⟨_, rfl⟩
        rw [← hV2] at e2
        have HV2 := hide hV2
        have HL3 := hide hL3
        clear hV2 hL3
        gi_wp2
        go_roundw
        case rel =>
          refine ⟨pre ++ [(s, g)], ?_, ?_, by simp; omega, hJ3, HL3.out⟩
          · rw [HV2.out, List.length_append, List.length_singleton]
            cases ks[pre.length + 1]? <;> rfl
          · rw [List.length_append, List.length_singleton, List.take_add_one, ← HP.out, HX.out]
            rfl
        case measure =>
          rw [HV2.out]
          have h1 : linkIx ks hs.length (Value.pointer (some ⟨k, 0, none⟩)) = hs.length - pre.length := by
            have := HM.out
            rw [HK.out] at this
            exact this
          rw [h1]
          cases h2 : ks[pre.length + 1]? with
          | none => simp [lp, linkIx]; omega
          | some k2 =>
            have := linkIx_at hnd (n := hs.length) h2
            rw [h2] at this
            rw [this]
            omega
      · gi_wp2
        refine bodyPost_ret (results_none rfl _ _ _) rfl ?_
        exact ⟨⟨_, rfl⟩, .inr ⟨pre ++ [(s, g)], trivial, hJx3⟩⟩
    · have hk : ks[pre.length]? = none := List.getElem?_eq_none (by omega)
      rw [hk]
      simp only [lp, Option.map]
      have HP := hide hpre
      clear hpre hk
      gi_wp2
      go_end0
      exact ⟨⟨_, rfl⟩, .inl ⟨pre, by rw [HP.out]; exact List.take_of_length_le (by omega), hJp⟩⟩

end Go.Proofs.Ytagminbfboncoaa
