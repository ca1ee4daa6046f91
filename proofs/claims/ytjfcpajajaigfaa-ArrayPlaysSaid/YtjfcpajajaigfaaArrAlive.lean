import Derived.Test.YtjfcpajajaigfaaArrC
/-! Package array: the known case. -/
namespace Go.Proofs.Ytjfcpajajaigfaa
open Go.RowKit Go.Maps Go.Lib
set_option maxHeartbeats 1000000
set_option maxRecDepth 100000

theorem alive_end : strOfNums ((slotOf (mput [] 1 (putBytes (slotOf [] 1) 6 ⟨#[97, 98]⟩)) 1).take 8) = ⟨#[0, 0, 0, 0, 0, 0, 97, 98]⟩ := by
  rfl

theorem arr_alive (w : World) : Calls Try.prog 8 #[] w fun e w' => e = .returned (.bool true) ∧ Below w.heap.size w w' := by
  go_enter Try.func8, Try.ntmps8
  go_wp2_with fail
  refine (arr_new w 8 2 (by omega) (by omega) (by omega) (by omega)).mono ?_
  rintro e w1 ⟨b, mb, rfl, h1, hb1, hm1, ht1⟩
  have B1 := hide (ht1.below (Nat.le_refl _) (fun k h => h.elim))
  have H1 := hide h1
  clear h1 ht1
  go_wp2_with fail
  refine (arr_find w1 b mb 8 2 [] H1.out _ (by decide)).mono ?_
  rintro e w2 ⟨rfl, rfl⟩
  rw [show findOf ⟨#[1, 0, 0, 0]⟩ 2 = (1, 0) from by decide]
  go_wp2_with fail
  refine (arr_find w1 b mb 8 2 [] H1.out _ (by decide)).mono ?_
  rintro e w2 ⟨rfl, rfl⟩
  rw [show findOf ⟨#[2, 0, 0, 0]⟩ 2 = (0, 5) from by decide]
  go_wp2_with fail
  refine (arr_find w1 b mb 8 2 [] H1.out _ (by decide)).mono ?_
  rintro e w2 ⟨rfl, rfl⟩
  rw [show findOf ⟨#[1]⟩ 2 = (0, 2) from by decide]
  go_wp2_with fail
  refine (arr_write w1 b mb 8 2 [] H1.out 1 6 ⟨#[97, 98]⟩ (by omega) (by omega) (by omega) (by omega) rfl (by omega) (by omega) (by decide)).mono ?_
  rintro e w2 ⟨rfl, h2, ht2⟩
  have B2 := hide (B1.out.trans (ht2.below (Nat.le_trans B1.out.size (Nat.le_refl _)) (fun k hk => by rw [hk]; exact hm1)))
  have H2 := hide h2
  clear h2 ht2
  go_wp2_with fail
  refine (arr_write_over w2 b mb 8 2 _ H2.out 1 7 ⟨#[97, 98]⟩ (by omega) (by omega) (by omega) (by decide) (by decide)).mono ?_
  rintro e w3 ⟨rfl, rfl⟩
  go_wp2_with fail
  refine (arr_get w2 b mb 8 2 _ H2.out 1 (by omega) (by omega) (by omega) (by omega) rfl).mono ?_
  rintro e w3 ⟨rfl, hb3⟩
  rw [show (8 : Int).toNat = 8 from rfl, show (6 : Int).toNat = 6 from rfl, alive_end]
  have B3 := hide (B2.out.trans (hb3.mono B2.out.size))
  have H3 := hide (H2.out.below hb3)
  go_wp2_with fail
  refine (arr_get_none w3 b mb 8 2 _ H3.out 2 (by omega)).mono ?_
  rintro e w4 ⟨rfl, hb4⟩
  have B4 := hide (B3.out.trans (hb4.mono B3.out.size))
  have H4 := hide (H3.out.below hb4)
  go_wp2_with fail
  refine (arr_slots w4 b mb 8 2 _ H4.out (by omega) (by omega)).mono ?_
  rintro e w5 ⟨v, rfl, hv, hb5⟩
  have B5 := hide (B4.out.trans (hb5.mono B4.out.size))
  have H5 := hide (H4.out.below hb5)
  obtain ⟨ao, cv, hvv⟩ : ∃ ao cv, v = .slice ao 2 cv := by
    rcases hv.2 with ⟨_, h0⟩ | ⟨g, cap, cur, h0, _⟩
    · exact absurd h0 (by decide)
    · exact ⟨_, _, h0⟩
  subst hvv
  clear hv
  go_wp2_with fail
  refine (arr_size w5 b mb 8 2 _ H5.out).mono ?_
  rintro e w6 ⟨rfl, rfl⟩
  go_wp2_with fail
  go_ret
  exact ⟨rfl, B5.out⟩

end Go.Proofs.Ytjfcpajajaigfaa
