import Derived.Test.YtjhfhognacjipaaLockWorks
import Derived.Test.YtjhfhognacjipaaShapes
import Derived.Deep.DeepCutAuto
import Derived.Deep.CutBlock
import Derived.Deep.RegionHeld3
/-! The law LockEpoch, walked. -/
namespace Go.Proofs.Ytjhfhognacjipaa
open Go.RowKit
set_option maxHeartbeats 1000000
set_option maxRecDepth 100000

theorem lock_epoch_walk (w : World) (A : Option Addr) (n c : Nat) (l : List S27) (hl : l.length = n) (hm : n ≤ 9223372036854775807) (hs : SliceOf w A 3 (l.map S27.cells))
    (_ : ∀ x ∈ l, x.ok) :
    Calls Try.prog 5 #[.slice A n c] w fun e w' => e = .returned (.bool true) ∧ Below w.heap.size w w' := by
  by_cases h400 : 300 < n
  · have hd : decide ((300 : Int) < n) = true := by simp; omega
    clear hl hs
    go_enter Try.func5, Try.ntmps5
    go_wp2_with fail
    refine (lock_works _).mono ?_
    rintro e w1 ⟨rfl, hb⟩
    go_wp2
    go_ret
    exact ⟨rfl, hb⟩
  · have hd : decide ((300 : Int) < n) = false := by simp; omega
    have HL := hide hl
    have HS := hide hs
    clear hl hs
    go_enter Try.func5, Try.ntmps5
    go_wp2_with fail
    refine (lock_new _).mono ?_
    rintro e w1 ⟨rfl, h1, hw1⟩
    have t1 : Below w.heap.size w w1 := by rw [hw1]; exact (Below.refl _ w).alloc (Nat.le_refl _) _
    have H1 := hide h1
    have T1 := hide t1
    clear hw1 h1 t1
    go_wp2_with fail
    go_loopw [4] (fun v4 wr => ∃ (k : Nat), k ≤ n ∧ v4 = .int .i64 k ∧ LockIs wr w.heap.size none k ∧ Below w.heap.size w wr) (fun i _ => n - (intOf i).toNat)
    case atStart =>
      exact ⟨0, Nat.zero_le _, rfl, H1.out, T1.out⟩
    case round =>
      obtain ⟨k, hk, rfl, hL, hB⟩ := hrel
      by_cases hlt : k < n
      · obtain ⟨x, hx⟩ : ∃ x, l[k]? = some x := ⟨_, List.getElem?_eq_getElem (by rw [HL.out]; exact hlt)⟩
        obtain ⟨b, off, rfl, hb, hc⟩ := HS.out.at_ hB (i := k) (cs := x.cells) (by rw [List.getElem?_map, hx]; rfl)
        obtain ⟨gx, mx, sx⟩ := x
        have e0 : wr.cell? ⟨b, off + k * 3, none⟩ = some (.bool gx) := hc 0 _ rfl
        have e1 : wr.cell? ⟨b, off + k * 3 + 1, none⟩ = some (.int .i64 mx) := hc 1 _ rfl
        have e2 : wr.cell? ⟨b, off + k * 3 + 2, none⟩ = some (.int .i64 sx) := hc 2 _ rfl
        have hbL : b ≠ w.heap.size := by omega
        clear hc hx
        have hk0 : (0 : Int) ≤ (k : Int) := Int.natCast_nonneg _
        have hk1 : (k : Int) < (n : Int) := by omega
        go_wp2_with fail
        have hL1 : LockIs wr.drew w.heap.size none k := hL
        have hw0 : IntKind.u64.wrap (k : Int) = k := wrap_u64 (by omega) (by omega)
        have hw1 : IntKind.u64.wrap ((k : Int) + 1) = k + 1 := wrap_u64 (by omega) (by omega)
        have HB := hide hB
        clear hL hB
        go_region_held3 (fun w' => w'.cell? ⟨b, off + k * 3, none⟩ = some (.bool gx) ∧ w'.cell? ⟨b, off + k * 3 + 1, none⟩ = some (.int .i64 mx) ∧ w'.cell? ⟨b, off + k * 3 + 2, none⟩ = some (.int .i64 sx))
          (first
            | go_keep
            | (go_split_ands; exact ⟨t6.cell (by assumption) (by unfold LockMay; exact hbL), t6.cell (by assumption) (by unfold LockMay; exact hbL), t6.cell (by assumption) (by unfold LockMay; exact hbL)⟩)
            | exact ⟨t5.cell (by assumption) (by unfold LockMay; exact hbL), t5.cell (by assumption) (by unfold LockMay; exact hbL), t5.cell (by assumption) (by unfold LockMay; exact hbL)⟩)
          (first
            | (go_at_call 15; refine (lock_take_none _ _ mx sx _ hL1).mono ?_; rintro e w2 ⟨rfl, h5, t5⟩)
            | (go_at_call 17; refine (lock_epoch _ _ _ _ h6).mono ?_; rintro e w4 ⟨rfl, rfl⟩)
            | (go_at_call 17; refine (lock_epoch _ _ _ _ h5).mono ?_; rintro e w4 ⟨rfl, rfl⟩)
            | (go_at_call 14; refine (lock_give_some _ _ mx sx _ h5).mono ?_; rintro e w3 ⟨rfl, h6, t6⟩))
        have g0 := t6.cell (t5.cell (p := ⟨b, off + k * 3, none⟩) e0 (by unfold LockMay; exact hbL)) (by unfold LockMay; exact hbL)
        have g1 := t6.cell (t5.cell (p := ⟨b, off + k * 3 + 1, none⟩) e1 (by unfold LockMay; exact hbL)) (by unfold LockMay; exact hbL)
        have g2 := t6.cell (t5.cell (p := ⟨b, off + k * 3 + 2, none⟩) e2 (by unfold LockMay; exact hbL)) (by unfold LockMay; exact hbL)
        have hB3 : Below w.heap.size w w3 := (Below.drew HB.out).trans ((t5.trans t6).below HB.out.size (fun j hj => by rw [hj]; exact Nat.le_refl _))
        have HB3 := hide hB3
        rw [hw1] at h6
        clear e0 e1 e2 t5 t6 hL1 h5 hB3
        cases gx with
        | false =>
          go_wp2_with fail
          go_quiet (fail)
          go_wp2_with fail
          go_roundw
          case rel => exact ⟨k + 1, by omega, by go_num, LockIs.drewN (h := none) h6 _, Below.drewN_ HB3.out _⟩
          case measure => simp [intOf]; omega
        | true =>
          go_wp2_with fail
          go_quiet (first | (go_at_call 14; exact quiet_left (lock_give_none _ _ mx sx _ (LockIs.drewN (h := none) h6 _))) | (go_at_call 17; exact quiet_left (lock_epoch _ _ _ _ (LockIs.drewN (h := none) h6 _))))
          go_wp2_with fail
          go_roundw
          case rel => exact ⟨k + 1, by omega, by go_num, LockIs.drewN (h := none) h6 _, Below.drewN_ HB3.out _⟩
          case measure => simp [intOf]; omega
      · have hk2 : k = n := by omega
        go_wp2_with fail
        refine (lock_works _).mono ?_
        rintro e w2 ⟨rfl, hb⟩
        go_wp2
        go_ret
        exact ⟨rfl, hB.trans (hb.mono hB.size)⟩

end Go.Proofs.Ytjhfhognacjipaa
