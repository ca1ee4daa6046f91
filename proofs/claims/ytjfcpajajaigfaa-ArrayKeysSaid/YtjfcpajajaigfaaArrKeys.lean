import Derived.Test.YtjfcpajajaigfaaArrAlive
import Derived.Test.YtjfcpajajaigfaaWf
/-! The law ArrayKeys, walked. -/
namespace Go.Proofs.Ytjfcpajajaigfaa
open Go.RowKit Go.Maps Go.Lib
set_option maxHeartbeats 1000000
set_option maxRecDepth 100000

theorem find_of_word (x m : Int) (h0 : 0 ≤ x) (h1 : x < 4294967296) : findOf (wordOf x 4) m = if x < m then (x, 0) else (0, 5) := by
  have h4 : (wordOf x 4).size = 4 := by
    have := wordOf_size_eq x 4 (by omega)
    omega
  have hn := numAt_wordOf x 4 h0 (by omega) (by omega)
  rw [show (4 : Int).toNat = 4 from rfl] at hn
  unfold findOf
  rw [if_pos h4, hn, show x % 256 ^ 4 = x from by omega]

theorem array_keys_walk (w : World) (n : Int) (hn : (Lit.int .u8 n).wf = true) (x : Int) (hx : (Lit.int .u32 x).wf = true) (y : Int) (hy : (Lit.int .u32 y).wf = true) :
    Calls Try.prog 5 #[.int .u8 n, .int .u32 x, .int .u32 y] w fun e w' => e = .returned (.bool true) ∧ Below w.heap.size w w' := by
  have n0 := wf_u8 hn
  have x0 := wf_u32 hx
  have y0 := wf_u32 hy
  clear hn hx hy
  have W1 : IntKind.i64.wrap n = n := wrap_i64 (by omega) (by omega)
  have W2 : IntKind.i64.wrap (1 + n) = 1 + n := wrap_i64 (by omega) (by omega)
  have W3 : IntKind.u64.wrap x = x := wrap_u64 (by omega) (by omega)
  have W4 : IntKind.u64.wrap y = y := wrap_u64 (by omega) (by omega)
  have W5 : IntKind.u64.wrap (1 + n) = 1 + n := wrap_u64 (by omega) (by omega)
  have W6 : IntKind.i64.wrap x = x := wrap_i64 (by omega) (by omega)
  go_enter Try.func5, Try.ntmps5
  go_wp2_with fail
  refine (arr_new w 8 (1 + n) (by omega) (by omega) (by omega) (by omega)).mono ?_
  rintro e w1 ⟨b, mb, rfl, h1, hb1, hm1, ht1⟩
  have B1 := hide (ht1.below (Nat.le_refl _) (fun k h => h.elim))
  have H1 := hide h1
  clear h1 ht1
  go_wp2_with fail
  refine (ref_of x 4 (by omega) (by omega) w1).mono ?_
  rintro e w2 ⟨rfl, hb2⟩
  have B2 := hide (B1.out.trans (hb2.mono B1.out.size))
  have H2 := hide (H1.out.below hb2)
  have hwx := wordOf_size x 4
  have hwy := wordOf_size y 4
  clear hb2
  go_wp2_with fail
  refine (arr_find w2 b mb 8 (1 + n) [] H2.out _ (by omega)).mono ?_
  rintro e w3 ⟨rfl, rfl⟩
  rw [find_of_word x _ (by omega) (by omega)]
  obtain ⟨i, f, hi, hif⟩ : ∃ i f : Int, (if x < 1 + n then (x, 0) else ((0 : Int), (5 : Int))) = (i, f) ∧ (x < 1 + n ∧ i = x ∧ f = 0 ∨ ¬ x < 1 + n ∧ i = 0 ∧ f = 5) := by
    split
    · exact ⟨_, _, rfl, Or.inl ⟨by assumption, rfl, rfl⟩⟩
    · exact ⟨_, _, rfl, Or.inr ⟨by assumption, rfl, rfl⟩⟩
  rw [hi]
  clear hi
  have F1 := hide hif
  clear hif
  go_wp2_with fail
  refine (ref_of y 4 (by omega) (by omega) w2).mono ?_
  rintro e w3 ⟨rfl, hb3⟩
  have B3 := hide (B2.out.trans (hb3.mono B2.out.size))
  have H3 := hide (H2.out.below hb3)
  clear hb3
  go_wp2_with fail
  refine (arr_find w3 b mb 8 (1 + n) [] H3.out _ (by omega)).mono ?_
  rintro e w4 ⟨rfl, rfl⟩
  rw [find_of_word y _ (by omega) (by omega)]
  obtain ⟨j, g, hj, hjg⟩ : ∃ i f : Int, (if y < 1 + n then (y, 0) else ((0 : Int), (5 : Int))) = (i, f) ∧ (y < 1 + n ∧ i = y ∧ f = 0 ∨ ¬ y < 1 + n ∧ i = 0 ∧ f = 5) := by
    split
    · exact ⟨_, _, rfl, Or.inl ⟨by assumption, rfl, rfl⟩⟩
    · exact ⟨_, _, rfl, Or.inr ⟨by assumption, rfl, rfl⟩⟩
  rw [hj]
  clear hj hwx hwy
  have F2 := hide hjg
  clear hjg
  have hsl := fun w1 h => arr_slots w1 b mb 8 (1 + n) [] h (by omega) (by omega)
  have hsl := hide hsl
  have main : ∀ (P1 : Prop), P1 → True := fun _ _ => trivial
  clear main
  rcases F1.out with ⟨c1, rfl, rfl⟩ | ⟨c1, rfl, rfl⟩
  all_goals
    clear F1
    go_wp2_with fail
    refine (hsl.out w3 H3.out).mono ?_
    rintro e w4 ⟨v, rfl, hv, hb4⟩
    have B4 := hide (B3.out.trans (hb4.mono B3.out.size))
    clear hb4
    obtain ⟨q, cv, rfl, hcell⟩ : ∃ q cv, v = .slice (some ⟨q, 0, none⟩) (1 + n).toNat cv ∧ ∀ k : Nat, (k : Int) < 1 + n → w4.cell? ⟨q, k, none⟩ = some (.int .i64 k) := by
      have hcs := fun g h => hv.cells (g := g) h
      rcases hv.2 with ⟨_, h0⟩ | ⟨g, cap, cur, h0, _⟩
      · omega
      · refine ⟨g, cap, h0, fun k hk => ?_⟩
        have := hcs g (by rw [h0]; rfl) k (.int .i64 k) (by rw [List.getElem?_map, List.getElem?_range (by omega)]; rfl)
        have hadd : (⟨g, 0, none⟩ : Addr).add k = ⟨g, k, none⟩ := by unfold Addr.add; split <;> simp_all
        rwa [hadd] at this
    clear hv
    have HC := hide hcell
    clear hcell
    have hmn : ((1 + n).toNat : Int) = 1 + n := by omega
    generalize hmm : (1 + n).toNat = M at *
    go_wp2_with fail
    go_loopw [15] (fun i wr => ∃ (k : Nat), (k : Int) ≤ 1 + n ∧ i = .int .i64 k ∧ wr = w4) (fun i _ => (1 + n).toNat - (intOf i).toNat)
    case atStart => exact ⟨0, by omega, rfl, rfl⟩
    case round =>
      obtain ⟨k, hk, rfl, rfl⟩ := hrel
      by_cases hlt : (k : Int) < 1 + n
      · have hc := HC.out k hlt
        have hkm : k < M := by omega
        have hw : IntKind.i64.wrap ((k : Int) + 1) = (k : Int) + 1 := wrap_i64 (by omega) (by omega)
        go_wp2_with fail
        go_roundw
        case rel => exact ⟨k + 1, by omega, by simp, by simp⟩
        case measure => simp [intOf]; omega
      · rcases F2.out with ⟨c2, rfl, rfl⟩ | ⟨c2, rfl, rfl⟩
        all_goals
          clear F2
          go_wp2_with fail
          refine (arr_alive wr).mono ?_
          rintro e w5 ⟨rfl, hb5⟩
          have B5 := hide (B4.out.trans (hb5.mono B4.out.size))
          clear hb5
          go_wp2_with fail
          go_ret
          exact ⟨rfl, B5.out⟩

end Go.Proofs.Ytjfcpajajaigfaa
