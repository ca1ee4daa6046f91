import Derived.Test.YtjhfhognacjipaaLockWorks
import Derived.Test.YtjhfhognacjipaaShapes
import Derived.Deep.DeepCutAuto
import Derived.Deep.CutBlock
/-! The law LockPlays, walked. -/
namespace Go.Proofs.Ytjhfhognacjipaa
open Go.RowKit
set_option maxHeartbeats 400000
set_option maxRecDepth 100000

theorem lock_plays_walk (w : World) (A : Option Addr) (n c : Nat) (l : List S27) (hl : l.length = n) (hm : n ≤ 9223372036854775807) (hs : SliceOf w A 3 (l.map S27.cells))
    (hok : ∀ x ∈ l, x.ok) (m : Int) (_ : (Lit.int .i64 m).wf = true) (s : Int) (_ : (Lit.int .i64 s).wf = true) :
    Calls Try.prog 3 #[.slice A n c, .int .i64 m, .int .i64 s] w fun e w' => e = .returned (.bool true) ∧ Below w.heap.size w w' := by
  by_cases h400 : 400 < n
  · have hd : decide ((400 : Int) < n) = true := by simp; omega
    clear hl hs hok
    go_enter Try.func3, Try.ntmps3
    go_wp2_with fail
    refine (lock_works _).mono ?_
    rintro e w1 ⟨rfl, hb⟩
    go_wp2
    go_ret
    exact ⟨rfl, hb⟩
  · have hd : decide ((400 : Int) < n) = false := by simp; omega
    have HL := hide hl
    have HS := hide hs
    have HO := hide hok
    clear hl hs hok
    go_enter Try.func3, Try.ntmps3
    go_wp2_with fail
    refine (lock_new _).mono ?_
    rintro e w1 ⟨rfl, h1, hw1⟩
    have t1 : Below w.heap.size w w1 := by rw [hw1]; exact (Below.refl _ w).alloc (Nat.le_refl _) _
    have s1 : w1.heap.size = w.heap.size + 1 := by rw [hw1]; simp
    have H1 := hide h1
    have T1 := hide t1
    have S1 := hide s1
    clear hw1 h1 t1 s1
    go_wp2_with fail
    go_loopw [9, 10, 11] (fun v9 v10 v11 wr => ∃ (k : Nat) (is g : Bool) (m0 s0 N : Int), k ≤ n ∧ v9 = .bool is ∧ v10 = .int .u64 N ∧ v11 = .int .i64 k ∧
        LockIs wr w.heap.size (if is then some (m0, s0) else none) N ∧ Has wr w1.heap.size 27 #[.bool g, .int .i64 m0, .int .i64 s0] ∧ Below w.heap.size w wr) (fun _ _ i _ => n - (intOf i).toNat)
    case atStart =>
      refine ⟨0, false, false, 0, 0, 0, Nat.zero_le _, rfl, rfl, rfl, ?_, Has.new _ _ _, T1.out.alloc (by have := S1.out; omega) _⟩
      exact Has.alloc H1.out _
    case round =>
      obtain ⟨k, is, g, m0, s0, N, hk, rfl, rfl, rfl, hL, hH, hB⟩ := hrel
      by_cases hlt : k < n
      · obtain ⟨x, hx⟩ : ∃ x, l[k]? = some x := ⟨_, List.getElem?_eq_getElem (by rw [HL.out]; exact hlt)⟩
        have hxm : x ∈ l := List.mem_of_getElem? hx
        obtain ⟨b, off, rfl, hb, hc⟩ := HS.out.at_ hB (i := k) (cs := x.cells) (by rw [List.getElem?_map, hx]; rfl)
        obtain ⟨gx, mx, sx⟩ := x
        have e0 : wr.cell? ⟨b, off + k * 3, none⟩ = some (.bool gx) := hc 0 _ rfl
        have e1 : wr.cell? ⟨b, off + k * 3 + 1, none⟩ = some (.int .i64 mx) := hc 1 _ rfl
        have e2 : wr.cell? ⟨b, off + k * 3 + 2, none⟩ = some (.int .i64 sx) := hc 2 _ rfl
        have hbb : b < wr.heap.size := Nat.lt_of_lt_of_le hb hB.size
        have HX := hide hx
        have hz := hH.lt
        have hz1 := hL.lt
        have d0 := hH.cell 1
        have d1 := hH.cell 2
        have f0 := hH.free 0
        have f1 := hH.free 1
        have f2 := hH.free 2
        simp at d0 d1
        clear hc hx hxm
        go_upto_region 9 with (fail)
        go_cut [13] (fun v13 wc => ∃ q : Bool, v13 = .bool q ∧ Hid (q = (is && m0 == mx && s0 == sx)) ∧ wc = wr.alloc (.cells #[.bool gx, .int .i64 mx, .int .i64 sx] 27))
        case first =>
          cases is with
          | false =>
            go_wp2
            go_meet
            case rel => exact ⟨_, rfl, hide rfl, rfl⟩
          | true =>
            by_cases h1 : m0 = mx
            · subst h1
              by_cases h2 : s0 = sx
              · subst h2
                go_wp2
                go_meet
                case rel => exact ⟨_, rfl, hide (by simp), rfl⟩
              · have h3 : (s0 == sx) = false := beq_eq_false_iff_ne.2 h2
                go_wp2
                go_meet
                case rel => exact ⟨_, rfl, hide (by simp [h2]), rfl⟩
            · have h3 : (m0 == mx) = false := beq_eq_false_iff_ne.2 h1
              go_wp2
              go_meet
              case rel => exact ⟨_, rfl, hide (by simp [h1]), rfl⟩
        case rest =>
          obtain ⟨q, rfl, HQ, rfl⟩ := hcut
          go_upto_if 51 with (fail)
          go_cut [9, 10] (fun v9 v10 wc => ∃ (is g : Bool) (m0 s0 N : Int), v9 = .bool is ∧ v10 = .int .u64 N ∧
              LockIs wc w.heap.size (if is then some (m0, s0) else none) N ∧ Has wc w1.heap.size 27 #[.bool g, .int .i64 m0, .int .i64 s0] ∧ Below w.heap.size w wc)
          case first =>
            have h2 := LockIs.alloc hL (.cells #[.bool gx, .int .i64 mx, .int .i64 sx] 27)
            have h3 := hH.alloc (.cells #[.bool gx, .int .i64 mx, .int .i64 sx] 27)
            have h4 := hB.alloc hB.size (.cells #[.bool gx, .int .i64 mx, .int .i64 sx] 27)
            have H2 := hide h2
            have H3 := hide h3
            have H4 := hide h4
            clear h2 h3 h4
            cases gx with
            | true =>
              cases is with
              | false =>
                obtain rfl : q = false := HQ.out
                go_wp2_with fail
                refine (lock_give_none _ _ mx sx N H2.out).mono ?_
                rintro e w2 ⟨rfl, rfl⟩
                go_wp2_with fail
                go_meet
                case rel => exact ⟨false, g, m0, s0, N, rfl, rfl, H2.out, H3.out, H4.out⟩
              | true =>
                cases q with
                | true =>
                  have hq : true = (m0 == mx && s0 == sx) := HQ.out
                  simp at hq
                  obtain ⟨rfl, rfl⟩ := hq
                  clear HQ
                  go_wp2_with fail
                  refine (lock_give_some _ _ m0 s0 N H2.out).mono ?_
                  rintro e w2 ⟨rfl, h5, t5⟩
                  go_wp2_with fail
                  go_meet
                  case rel => exact ⟨false, g, m0, s0, _, rfl, rfl, h5, H3.out.turned t5 (fun hh => by have := S1.out; unfold LockMay at hh; omega), H4.out.trans (t5.below H4.out.size (fun j hj => by rw [hj]; exact Nat.le_refl _))⟩
                | false =>
                  have hq : (m0 == mx && s0 == sx) = false := HQ.out.symm
                  have HQ2 := hide hq
                  clear hq HQ
                  go_wp2_with fail
                  refine (lock_give_other _ _ mx sx N m0 s0 H2.out HQ2.out).mono ?_
                  rintro e w2 ⟨rfl, rfl⟩
                  go_wp2_with fail
                  go_meet
                  case rel => exact ⟨true, g, m0, s0, N, rfl, rfl, H2.out, H3.out, H4.out⟩
            | false =>
              cases is with
              | false =>
                have hs0 := (Has.new wr 27 #[.bool false, .int .i64 mx, .int .i64 sx])
                have HS0 := hide hs0
                clear hs0
                go_wp2_with fail
                refine (lock_take_none _ _ mx sx N H2.out).mono ?_
                rintro e w2 ⟨rfl, h5, t5⟩
                have a3 := H3.out.turned t5 (fun hh => by have := S1.out; unfold LockMay at hh; omega)
                have a5 := HS0.out.turned t5 (fun hh => by unfold LockMay at hh; omega)
                have hlt3 := a3.lt
                have c0 := a5.cell 0
                have c1 := a5.cell 1
                have c2 := a5.cell 2
                have f0 := a3.free 0
                have f1 := a3.free 1
                have f2 := a3.free 2
                have i0 := a3.cell 0
                have i1 := a3.cell 1
                have i2 := a3.cell 2
                simp at c0 c1 c2 i0 i1 i2
                have A3 := hide a3
                have H5 := hide h5
                clear a3 a5 h5
                go_wp2_with fail
                go_meet
                case rel =>
                  have hw := S1.out
                  exact ⟨true, false, mx, sx, N, rfl, rfl, ((H5.out.far A3.out (by decide) (by decide) 0 _).far (A3.out.set 0 _) (by decide) (by decide) 1 _).far ((A3.out.set 0 _).set 1 _) (by decide) (by decide) 2 _,
                    ((A3.out.set 0 _).set 1 _).set 2 _, (((H4.out.trans (t5.below H4.out.size (fun j hj => by rw [hj]; exact Nat.le_refl _))).setCell (by simp; omega) _).setCell (by simp; omega) _).setCell (by simp; omega) _⟩
              | true =>
                go_wp2_with fail
                refine (lock_take_some _ _ mx sx N _ H2.out).mono ?_
                rintro e w2 ⟨rfl, rfl⟩
                go_wp2_with fail
                go_meet
                case rel => exact ⟨true, g, m0, s0, N, rfl, rfl, H2.out, H3.out, H4.out⟩
          case rest =>
            obtain ⟨is2, g2, m2, s2, N2, rfl, rfl, hL2, hH2, hB2⟩ := hcut
            have b0 := hH2.cell 1
            have b1 := hH2.cell 2
            simp at b0 b1
            have HH2 := hide hH2
            have HB2 := hide hB2
            clear d0 d1 f0 f1 f2 e0 e1 e2 hL hH hB hz hz1 HQ hH2 hB2
            cases is2 with
            | false =>
              go_wp2_with fail
              refine (lock_held_none _ _ N2 hL2).mono ?_
              rintro e w3 ⟨rfl, rfl⟩
              go_wp2_with fail
              refine (lock_epoch _ _ N2 none hL2).mono ?_
              rintro e w3 ⟨rfl, rfl⟩
              go_wp2_with fail
              refine (lock_is_none _ _ m s N2 hL2).mono ?_
              rintro e w3 ⟨rfl, rfl⟩
              go_wp2_with fail
              go_roundw
              case rel => exact ⟨k + 1, false, g2, m2, s2, N2, by omega, rfl, rfl, by go_num, hL2, HH2.out, HB2.out⟩
              case measure => simp [intOf]; omega
            | true =>
              go_wp2_with fail
              refine (lock_held_some _ _ N2 m2 s2 hL2).mono ?_
              rintro e w3 ⟨rfl, kk, rfl⟩
              have hL3 := hL2.drewN kk
              go_wp2_with fail
              refine (lock_epoch _ _ N2 _ hL3).mono ?_
              rintro e w3 ⟨rfl, hw3⟩
              rw [← hw3]
              clear hw3
              by_cases h1 : m2 = m
              · subst h1
                by_cases h2 : s2 = s
                · subst h2
                  go_wp2_with fail
                  have hc := lock_is_some _ _ m2 s2 N2 m2 s2 hL3
                  rw [show (m2 == m2 && s2 == s2) = true by simp] at hc
                  refine hc.mono ?_
                  rintro e w3 ⟨rfl, hw3⟩
                  rw [← hw3]
                  clear hw3 hc
                  go_wp2_with fail
                  have hc := lock_is_some _ _ m2 s2 N2 m2 s2 hL3
                  rw [show (m2 == m2 && s2 == s2) = true by simp] at hc
                  refine hc.mono ?_
                  rintro e w3 ⟨rfl, hw3⟩
                  rw [← hw3]
                  clear hw3 hc
                  go_wp2_with fail
                  go_roundw
                  case rel => exact ⟨k + 1, true, g2, m2, s2, N2, by omega, rfl, rfl, by go_num, hL3, HH2.out.drewN _, Below.drewN_ HB2.out _⟩
                  case measure => simp [intOf]; omega
                · have h3 : (s2 == s) = false := beq_eq_false_iff_ne.2 h2
                  go_wp2_with fail
                  have hc := lock_is_some _ _ m2 s N2 m2 s2 hL3
                  rw [show (m2 == m2 && s2 == s) = false by simp [h2]] at hc
                  refine hc.mono ?_
                  rintro e w3 ⟨rfl, hw3⟩
                  rw [← hw3]
                  clear hw3 hc
                  go_wp2_with fail
                  have hc := lock_is_some _ _ m2 s2 N2 m2 s2 hL3
                  rw [show (m2 == m2 && s2 == s2) = true by simp] at hc
                  refine hc.mono ?_
                  rintro e w3 ⟨rfl, hw3⟩
                  rw [← hw3]
                  clear hw3 hc
                  go_wp2_with fail
                  go_roundw
                  case rel => exact ⟨k + 1, true, g2, m2, s2, N2, by omega, rfl, rfl, by go_num, hL3, HH2.out.drewN _, Below.drewN_ HB2.out _⟩
                  case measure => simp [intOf]; omega
              · have h3 : (m2 == m) = false := beq_eq_false_iff_ne.2 h1
                go_wp2_with fail
                have hc := lock_is_some _ _ m s N2 m2 s2 hL3
                rw [show (m2 == m && s2 == s) = false by simp [h1]] at hc
                refine hc.mono ?_
                rintro e w3 ⟨rfl, hw3⟩
                rw [← hw3]
                clear hw3 hc
                go_wp2_with fail
                have hc := lock_is_some _ _ m2 s2 N2 m2 s2 hL3
                rw [show (m2 == m2 && s2 == s2) = true by simp] at hc
                refine hc.mono ?_
                rintro e w3 ⟨rfl, hw3⟩
                rw [← hw3]
                clear hw3 hc
                go_wp2_with fail
                go_roundw
                case rel => exact ⟨k + 1, true, g2, m2, s2, N2, by omega, rfl, rfl, by go_num, hL3, HH2.out.drewN _, Below.drewN_ HB2.out _⟩
                case measure => simp [intOf]; omega
      · have hk2 : k = n := by omega
        go_wp2_with fail
        refine (lock_works _).mono ?_
        rintro e w2 ⟨rfl, hb⟩
        go_wp2
        go_ret
        exact ⟨rfl, hB.trans (hb.mono hB.size)⟩

end Go.Proofs.Ytjhfhognacjipaa
