import Derived.Test.YtjfcpajajaigfaaArrPure
import Derived.Test.YtjfcpajajaigfaaShapes
/-! The law ArrayLast, walked. -/
namespace Go.Proofs.Ytjfcpajajaigfaa
open Go.RowKit Go.Maps Go.Lib
set_option maxHeartbeats 2000000
set_option maxRecDepth 100000

theorem wf_of_i64 {x : Int} (h0 : -9223372036854775808 ≤ x) (h1 : x ≤ 9223372036854775807) : intOk x := by
  simp [intOk, Lit.wf, IntKind.min, IntKind.max, IntKind.bits, IntKind.signed]
  omega

theorem array_last_walk (w : World) (size : Int) (wsize : (Lit.int .u8 size).wf = true) (n : Int) (wn : (Lit.int .u8 n).wf = true) (A : Option Addr) (N c : Nat) (l : List S34) (hl : l.length = N) (_ : N ≤ 9223372036854775807) (hs : SliceOf w A 4 (l.map S34.cells))
    (hok : ∀ x ∈ l, x.ok) (slot : Int) (wslot : (Lit.int .u8 slot).wf = true) (pos : Int) (wpos : (Lit.int .u8 pos).wf = true) :
    Calls Try.prog 4 #[.int .u8 size, .int .u8 n, .slice A N c, .int .u8 slot, .int .u8 pos] w fun e w' => e = .returned (.bool true) ∧ Below w.heap.size w w' := by
  have b0 := wf_u8 wsize
  have b1 := wf_u8 wn
  have b2 := wf_u8 wslot
  have b3 := wf_u8 wpos
  clear wsize wn wslot wpos
  by_cases h200 : 200 < N
  · have hd : decide ((200 : Int) < N) = true := by simp; omega
    clear hl hs hok
    go_enter Try.func4, Try.ntmps4
    go_wp2_with fail
    refine (arr_alive _).mono ?_
    rintro e w1 ⟨rfl, hb⟩
    go_wp2
    go_ret
    exact ⟨rfl, hb⟩
  · have hd : decide ((200 : Int) < N) = false := by simp; omega
    have HL := hide hl
    have HS := hide hs
    have HO := hide hok
    clear hl hs hok
    have W1 : IntKind.i64.wrap size = size := wrap_i64 (by omega) (by omega)
    have W2 : IntKind.i64.wrap n = n := wrap_i64 (by omega) (by omega)
    have W3 : IntKind.i64.wrap slot = slot := wrap_i64 (by omega) (by omega)
    have W4 : IntKind.i64.wrap pos = pos := wrap_i64 (by omega) (by omega)
    go_enter Try.func4, Try.ntmps4
    go_wp2_with fail
    have hz0 : 1 ≤ 1 + size % 128 := by omega
    have hz1 : 1 + size % 128 ≤ 128 := by omega
    have hm0 : 1 ≤ 1 + n % 16 := by omega
    have hm1 : 1 + n % 16 ≤ 256 := by omega
    generalize 1 + size % 128 = z at *
    generalize 1 + n % 16 = m at *
    refine (arr_new w z m hz0 hz1 hm0 hm1).mono ?_
    rintro e w1 ⟨b, mb, rfl, h1, hb1, hmb1, ht1⟩
    have B1 := hide (ht1.below (Nat.le_refl _) (fun k h => h.elim))
    have H1 := hide h1
    clear h1 ht1 W1 W2
    have Z0 : (z == 0) = false := beq_eq_false_iff_ne.2 (by omega)
    have Z1 : (m == 0) = false := beq_eq_false_iff_ne.2 (by omega)
    have Z2 : ¬ z = 0 := by omega
    have Z3 : ¬ m = 0 := by omega
    have T1 : slot.tmod m = slot % m := Int.tmod_eq_emod_of_nonneg (by omega)
    have T2 : pos.tmod z = pos % z := Int.tmod_eq_emod_of_nonneg (by omega)
    have R1 : 0 ≤ slot % m := Int.emod_nonneg _ (by omega)
    have R2 : slot % m < m := Int.emod_lt_of_pos _ (by omega)
    have R3 : 0 ≤ pos % z := Int.emod_nonneg _ (by omega)
    have R4 : pos % z < z := Int.emod_lt_of_pos _ (by omega)
    have W5 : IntKind.i64.wrap (slot % m) = slot % m := wrap_i64 (by omega) (by omega)
    have W6 : IntKind.i64.wrap (pos % z) = pos % z := wrap_i64 (by omega) (by omega)
    go_wp2_with fail
    go_quiet (fail)
    have S1 : Hid (0 ≤ slot % m ∧ slot % m < m ∧ 0 ≤ pos % z ∧ pos % z < z) := ⟨R1, R2, R3, R4⟩
    clear Z0 Z1 Z2 Z3 T1 T2 W5 W6 W3 W4
    generalize slot % m = s at *
    generalize pos % z = p at *
    go_wp2_with fail
    go_loopw [17, 18] (fun v i wr => ∃ (k : Nat) (want : Int) (L : List (Int × List Int)), k ≤ N ∧ i = .int .i64 k ∧ v = .int .u8 want ∧ 0 ≤ want ∧ want < 256 ∧ ArrIs wr b mb z m L ∧ (slotOf L s)[p.toNat]? = some want ∧ Below w.heap.size w wr)
      (fun _ i _ => N - (intOf i).toNat)
    case atStart =>
      refine ⟨0, 0, [], Nat.zero_le _, rfl, rfl, by omega, by omega, H1.out.kept rfl rfl, ?_, Below.drewN_ B1.out _⟩
      have := S1.out
      show (List.replicate 128 (0 : Int))[p.toNat]? = some 0
      rw [List.getElem?_replicate, if_pos (by omega)]
    case round =>
      obtain ⟨k, want, L, hk, rfl, rfl, hw0, hw1, hA, hwant, hB⟩ := hrel
      by_cases hlt : k < N
      · obtain ⟨x, hx⟩ : ∃ x, l[k]? = some x := ⟨_, List.getElem?_eq_getElem (by rw [HL.out]; exact hlt)⟩
        have hxo := HO.out x (List.mem_of_getElem? hx)
        obtain ⟨cb, off, rfl, hcb, hcells⟩ := HS.out.at_ hB (i := k) (cs := x.cells) (by rw [List.getElem?_map, hx]; rfl)
        obtain ⟨xd, xs, xa, xt⟩ := x
        have e0 : wr.cell? ⟨cb, off + k * 4, none⟩ = some (.int .u8 xd) := hcells 0 _ rfl
        have e1 : wr.cell? ⟨cb, off + k * 4 + 1, none⟩ = some (.int .i64 xs) := hcells 1 _ rfl
        have e2 : wr.cell? ⟨cb, off + k * 4 + 2, none⟩ = some (.int .i64 xa) := hcells 2 _ rfl
        have e3 : wr.cell? ⟨cb, off + k * 4 + 3, none⟩ = some (.string xt) := hcells 3 _ rfl
        obtain ⟨_, xo1, xo2, xo3⟩ := hxo
        simp only [] at xo1 xo2 xo3
        unfold maxLen at xo3
        have XO := hide (And.intro xo1 (And.intro xo2 xo3))
        have HX := hide hx
        clear hcells hx xo1 xo2 xo3
        by_cases hbig : 1024 < xt.size
        · have hd2 : decide ((1024 : Int) < xt.size) = true := decide_eq_true (by omega)
          go_wp2_with fail
          refine (arr_alive _).mono ?_
          rintro e w2 ⟨rfl, hb2⟩
          go_wp2_with fail
          go_ret
          refine ⟨rfl, (hB.alloc hB.size _).trans (hb2.mono ?_)⟩
          have := hB.size
          simp
          omega
        · have hd2 : decide ((1024 : Int) < xt.size) = false := decide_eq_false (by omega)
          go_wp2_with fail
          have hA1 : ArrIs (wr.alloc (.cells #[.int .u8 xd, .int .i64 xs, .int .i64 xa, .string xt] 34)) b mb z m L := hA.kept (Below.heap_alloc _ _ _ hA.1.lt) (Below.heap_alloc _ _ _ hA.2.1.lt)
          refine (arr_writes _ b mb z m L hA1 xs xa xt hz0 hz1 XO.out.1 (by omega)).mono ?_
          rintro e w2 ⟨rfl, hA2, ht2⟩
          have hB2 : Below w.heap.size w w2 := (hB.alloc hB.size _).trans (ht2.below (by have := hB.size; simp; omega) (fun j hj => by rw [hj]; exact hmb1))
          have hc2 : Has w2 wr.heap.size 34 #[.int .u8 xd, .int .i64 xs, .int .i64 xa, .string xt] := (Has.new wr _ _).turned ht2 (fun e => by have := hA.2.1.lt; omega)
          have g1 := hc2.cell 1
          have g2 := hc2.cell 2
          have g3 := hc2.cell 3
          simp at g1 g2 g3
          have hlen := slot_length L hA.2.2
          have hcode : writeCode z m xs xa xt = 0 → (0 ≤ xs ∧ xs < m) ∧ (0 ≤ xa ∧ xa ≤ z ∧ (xt.size : Int) ≤ z - xa) := by
            unfold writeCode
            split
            · split
              · intro _; exact ⟨by assumption, by assumption⟩
              · intro h; simp at h
            · intro h; simp at h
          have hA2 := hide hA2
          have HB2 := hide hB2
          have HA := hide hA
          have HW := hide hwant
          have HLn := hide hlen
          have hkw : IntKind.i64.wrap ((k : Int) + 1) = (k : Int) + 1 := wrap_i64 (by omega) (by omega)
          clear hA1 ht2 hB2 hc2 hA hwant hlen e0 e1 e2 e3
          generalize writeCode z m xs xa xt = q at *
          by_cases hq : q = 0
          · obtain ⟨hq1, hq2⟩ := hcode hq
            subst hq
            have hA3 := hA2.out
            rw [if_pos rfl] at hA3
            have HA3 := hide hA3
            clear hcode hA2 hA3
            by_cases hss : xs = s
            · subst hss
              by_cases hp1 : xa ≤ p
              · have W7 : IntKind.i64.wrap (p - xa) = p - xa := wrap_i64 (by have := S1.out; omega) (by have := S1.out; omega)
                by_cases hp2 : p - xa < (xt.size : Int)
                · have hi0 : 0 ≤ p - xa := by omega
                  have hi1 : (p - xa).toNat < xt.size := by omega
                  go_wp2_with fail
                  refine ⟨⟨k + 1, _, _, by omega, by simp, rfl, ?_, ?_, HA3.out, ?_, HB2.out⟩, by simp [intOf]; omega⟩
                  all_goals rw [byteAt_eq]
                  · exact (byteAt_range _ _).1
                  · exact (byteAt_range _ _).2
                  · rw [slotOf_put, if_pos rfl, put_get _ _ _ (by rw [HLn.out]; have := S1.out; omega), if_pos (by omega), show p.toNat - xa.toNat = (p - xa).toNat from by omega]
                · have hi1 : (xt.size : Int) ≤ p - xa := by omega
                  go_wp2_with fail
                  refine ⟨⟨k + 1, want, _, by omega, by simp, rfl, hw0, hw1, HA3.out, ?_, HB2.out⟩, by simp [intOf]; omega⟩
                  rw [slotOf_put, if_pos rfl, put_get _ _ _ (by rw [HLn.out]; have := S1.out; omega), if_neg (by have := S1.out; omega)]
                  exact HW.out
              · go_wp2_with fail
                refine ⟨⟨k + 1, want, _, by omega, by simp, rfl, hw0, hw1, HA3.out, ?_, HB2.out⟩, by simp [intOf]; omega⟩
                rw [slotOf_put, if_pos rfl, put_get _ _ _ (by rw [HLn.out]; have := S1.out; omega), if_neg (by have := S1.out; omega)]
                exact HW.out
            · go_wp2_with fail
              refine ⟨⟨k + 1, want, _, by omega, by simp, rfl, hw0, hw1, HA3.out, ?_, HB2.out⟩, by simp [intOf]; omega⟩
              rw [slotOf_put, if_neg hss]
              exact HW.out
          · have hA3 := hA2.out
            rw [if_neg hq] at hA3
            have HA3 := hide hA3
            have hqb : (q == 0) = false := beq_eq_false_iff_ne.2 hq
            clear hcode hA2 hA3
            go_wp2_with fail
            exact ⟨⟨k + 1, want, _, by omega, by simp, rfl, hw0, hw1, HA3.out, HW.out, HB2.out⟩, by simp [intOf]; omega⟩
      · go_wp2_with fail
        refine (arr_get wr b mb z m L hA s S1.out.1 S1.out.2.1 hz0 hz1 (wf_of_i64 (by have := S1.out; omega) (by have := S1.out; omega))).mono ?_
        rintro e w2 ⟨rfl, hb2⟩
        have hlen := slot_length L hA.2.2 s
        have hts : (strOfNums ((slotOf L s).take z.toNat)).size = z.toNat := by rw [strOfNums_size, List.length_take]; omega
        have hS := S1.out
        have htb : byteAt (strOfNums ((slotOf L s).take z.toNat)) p.toNat = want := byteAt_one _ _ _ (by rw [List.getElem?_take, if_pos (by omega)]; exact hwant) hw0 hw1
        generalize strOfNums ((slotOf L s).take z.toNat) = T at *
        have B2 := hide (hB.trans (hb2.mono hB.size))
        have hi0 : 0 ≤ p := by omega
        have hi1 : p.toNat < T.size := by omega
        have hbt : ∀ h, ((T[p.toNat]'h).toNat : Int) = want := fun h => by rw [byteAt_eq]; exact htb
        have htz : (T.size : Int) = z := by omega
        clear hb2 htb hA hwant
        go_wp2_with fail
        refine (arr_alive w2).mono ?_
        rintro e w3 ⟨rfl, hb3⟩
        have B3 := hide (B2.out.trans (hb3.mono B2.out.size))
        clear hb3
        go_wp2_with fail
        go_ret
        exact ⟨rfl, B3.out⟩

end Go.Proofs.Ytjfcpajajaigfaa
