import Derived.Test.YtjfcpajajaigfaaArrRefNew
import Derived.Test.YtjfcpajajaigfaaShapes
/-! The law ArrayPlays, walked. -/
namespace Go.Proofs.Ytjfcpajajaigfaa
open Go.RowKit Go.Maps Go.Lib
set_option maxHeartbeats 2000000
set_option maxRecDepth 100000

theorem has_ne_map {w : World} {x mb : Nat} {t : TypeId} {cs : Array Value} {α : Type} {enc : α → Value} {ok : α → Prop} {l : List (α × Value)} (h : Has w x t cs) (hm : MapIs w mb enc ok l) : x ≠ mb := by
  rintro rfl
  obtain ⟨es, clock, hes, _⟩ := hm
  unfold Has at h
  rw [h] at hes
  cases hes

theorem RefIs.turned_map {w w' : World} {x g mb b : Nat} {L : List ByteArray} {size n : Int} {l : List (Int × List Int)} (h : RefIs w x g L) (ha : ArrIs w b mb size n l) (ht : Turned (fun k => k = mb) w w') : RefIs w' x g L := by
  obtain ⟨cap, cur, h1, h2, h3⟩ := id h
  exact h.turned ht (has_ne_map h1 ha.2.1) (has_ne_map h2 ha.2.1)

theorem ArrIs.turned_row {w w' : World} {x g mb b : Nat} {L : List ByteArray} {size n : Int} {l : List (Int × List Int)} (ha : ArrIs w b mb size n l) (h : RefIs w x g L) (ht : Turned (fun k => k = g) w w') : ArrIs w' b mb size n l := by
  obtain ⟨cap, cur, h1, h2, h3⟩ := id h
  exact ha.kept (ht.block _ ha.1.lt (ha.1.ne h2 (by decide))) (ht.block _ ha.2.1.lt (fun e => has_ne_map h2 ha.2.1 e.symm))

theorem agree_write {size n : Int} {L : List (Int × List Int)} {T : List ByteArray} (h : Agree size.toNat L T) (hlen : ∀ s, (slotOf L s).length = 128) (hT : T.length = n.toNat) (hs0 : 1 ≤ size) (hs1 : size ≤ 128) (xs xa : Int) (xt : ByteArray) :
    Agree size.toNat (if writeCode size n xs xa xt = 0 then mput L xs (putBytes (slotOf L xs) xa.toNat xt) else L) (if writeCode size n xs xa xt = 0 then T.set xs.toNat (putText (T[xs.toNat]?.getD ⟨#[]⟩) xa.toNat xt) else T) ∧
      (if writeCode size n xs xa xt = 0 then T.set xs.toNat (putText (T[xs.toNat]?.getD ⟨#[]⟩) xa.toNat xt) else T).length = n.toNat := by
  by_cases hq : writeCode size n xs xa xt = 0
  · have hc : (0 ≤ xs ∧ xs < n) ∧ (0 ≤ xa ∧ xa ≤ size ∧ (xt.size : Int) ≤ size - xa) := by
      unfold writeCode at hq
      split at hq
      · split at hq
        · exact ⟨by assumption, by assumption⟩
        · simp at hq
      · simp at hq
    rw [if_pos hq, if_pos hq, List.length_set]
    obtain ⟨k, rfl⟩ := Int.eq_ofNat_of_zero_le hc.1.1
    obtain ⟨S, hS⟩ : ∃ S, T[k]? = some S := ⟨_, List.getElem?_eq_getElem (by omega)⟩
    rw [show ((k : Int)).toNat = k from rfl, hS]
    exact ⟨h.put k S hS (hlen k) (by omega) _ _ (by omega), hT⟩
  · rw [if_neg hq, if_neg hq]
    exact ⟨h, hT⟩

theorem writeCode_range (size n xs xa : Int) (xt : ByteArray) : 0 ≤ writeCode size n xs xa xt ∧ writeCode size n xs xa xt ≤ 9 := by
  unfold writeCode
  split
  · split <;> omega
  · omega

theorem array_plays_walk (w : World) (size : Int) (_ : (Lit.int .i64 size).wf = true) (n : Int) (_ : (Lit.int .i64 n).wf = true) (A : Option Addr) (N c : Nat) (l : List S34) (hl : l.length = N) (_ : N ≤ 9223372036854775807) (hs : SliceOf w A 4 (l.map S34.cells))
    (hok : ∀ x ∈ l, x.ok) :
    Calls Try.prog 3 #[.int .i64 size, .int .i64 n, .slice A N c] w fun e w' => e = .returned (.bool true) ∧ Below w.heap.size w w' := by
  by_cases h200 : 200 < N
  · have hd : decide ((200 : Int) < N) = true := by simp; omega
    clear hl hs hok
    go_enter Try.func3, Try.ntmps3
    go_wp2_with fail
    refine (arr_alive _).mono ?_
    rintro e w1 ⟨rfl, hb⟩
    go_wp2
    go_ret
    exact ⟨rfl, hb⟩
  · have hd : decide ((200 : Int) < N) = false := by simp; omega
    have HL := hide hl
    have HS := hide hs
    have HO := hide hok
    clear hl hs hok
    by_cases hmay : 1 ≤ size ∧ size ≤ 128 ∧ 1 ≤ n ∧ n ≤ 256
    · obtain ⟨hz0, hz1, hn0, hn1⟩ := hmay
      go_enter Try.func3, Try.ntmps3
      go_wp2_with fail
      refine (arr_new w size n hz0 hz1 hn0 hn1).mono ?_
      rintro e w1 ⟨b, mb, rfl, h1, hb1, hmb1, ht1⟩
      have B1 := hide (ht1.below (Nat.le_refl _) (fun k h => h.elim))
      have H1 := hide h1
      clear h1 ht1
      go_wp2_with fail
      refine (ref_new w1 size n hz0 hz1 hn0 hn1).mono ?_
      rintro e w2 ⟨x, g, rfl, hR2, hx2, hg2, hb2⟩
      have B2 := hide (B1.out.trans (hb2.mono B1.out.size))
      have H2 := hide (H1.out.below hb2)
      have R2 := hide hR2
      have hgw : w.heap.size ≤ g := Nat.le_trans B1.out.size hg2
      clear hb2 hR2 hx2 hg2
      go_wp2_with fail
      refine (arr_size w2 b mb size n [] H2.out).mono ?_
      rintro e w3 ⟨rfl, rfl⟩
      go_wp2_with fail
      refine (arr_slots w2 b mb size n [] H2.out (by omega) (by omega)).mono ?_
      rintro e w3 ⟨v, rfl, hv, hb3⟩
      have B3 := hide (B2.out.trans (hb3.mono B2.out.size))
      have H3 := hide (H2.out.below hb3)
      have R3 := hide (R2.out.below hb3)
      obtain ⟨q, cv, rfl, _, _⟩ := hv.form (by omega)
      have hnn : (n.toNat : Int) = n := by omega
      clear hv hb3
      go_wp2_with fail
      go_loopw [10] (fun i wr => ∃ (k : Nat) (L : List (Int × List Int)) (T : List ByteArray), k ≤ N ∧ i = .int .i64 k ∧ ArrIs wr b mb size n L ∧ RefIs wr x g T ∧ T.length = n.toNat ∧ Agree size.toNat L T ∧ Below w.heap.size w wr)
        (fun i _ => N - (intOf i).toNat)
      case atStart =>
        refine ⟨0, [], _, Nat.zero_le _, rfl, H3.out, R3.out, by rw [List.length_replicate], ?_, B3.out⟩
        intro k hk
        rw [List.length_replicate] at hk
        rw [List.getElem?_replicate, if_pos hk]
        show _ = some (strOfNums ((List.replicate 128 (0 : Int)).take size.toNat))
        rw [List.take_replicate, Nat.min_eq_left (by omega)]
      case round =>
        obtain ⟨k, L, T, hk, rfl, hA, hR, hTn, hAg, hB⟩ := hrel
        by_cases hlt : k < N
        · obtain ⟨y, hy⟩ : ∃ x, l[k]? = some x := ⟨_, List.getElem?_eq_getElem (by rw [HL.out]; exact hlt)⟩
          have hyo := HO.out y (List.mem_of_getElem? hy)
          obtain ⟨cb, off, rfl, hcb, hcells⟩ := HS.out.at_ hB (i := k) (cs := y.cells) (by rw [List.getElem?_map, hy]; rfl)
          obtain ⟨xd, xs, xa, xt⟩ := y
          have e0 : wr.cell? ⟨cb, off + k * 4, none⟩ = some (.int .u8 xd) := hcells 0 _ rfl
          have e1 : wr.cell? ⟨cb, off + k * 4 + 1, none⟩ = some (.int .i64 xs) := hcells 1 _ rfl
          have e2 : wr.cell? ⟨cb, off + k * 4 + 2, none⟩ = some (.int .i64 xa) := hcells 2 _ rfl
          have e3 : wr.cell? ⟨cb, off + k * 4 + 3, none⟩ = some (.string xt) := hcells 3 _ rfl
          obtain ⟨xo0, xo1, xo2, xo3⟩ := hyo
          simp only [] at xo0 xo1 xo2 xo3
          have xo0 := wf_u8 xo0
          unfold maxLen at xo3
          have XO := hide (And.intro xo1 (And.intro xo2 xo3))
          have HX := hide hy
          clear hcells hy xo1 xo2 xo3
          by_cases hbig : 1024 < xt.size
          · have hd2 : decide ((1024 : Int) < xt.size) = true := decide_eq_true (by omega)
            go_wp2_with fail
            refine (arr_alive _).mono ?_
            rintro e w4 ⟨rfl, hb4⟩
            go_wp2_with fail
            go_ret
            refine ⟨rfl, (hB.alloc hB.size _).trans (hb4.mono ?_)⟩
            have := hB.size
            simp
            omega
          · have hd2 : decide ((1024 : Int) < xt.size) = false := decide_eq_false (by omega)
            have hA1 : ArrIs (wr.alloc (.cells #[.int .u8 xd, .int .i64 xs, .int .i64 xa, .string xt] 34)) b mb size n L := hA.kept (Below.heap_alloc _ _ _ hA.1.lt) (Below.heap_alloc _ _ _ hA.2.1.lt)
            have hR1 : RefIs (wr.alloc (.cells #[.int .u8 xd, .int .i64 xs, .int .i64 xa, .string xt] 34)) x g T := hR.kept (Below.heap_alloc _ _ _ hR.ltx) (Below.heap_alloc _ _ _ hR.ltg)
            have hB1 : Below w.heap.size w (wr.alloc (.cells #[.int .u8 xd, .int .i64 xs, .int .i64 xa, .string xt] 34)) := hB.alloc hB.size _
            have hC1 := Has.new wr 34 #[.int .u8 xd, .int .i64 xs, .int .i64 xa, .string xt]
            have HA1 := hide hA1
            have HR1 := hide hR1
            have HB1 := hide hB1
            have HC1 := hide hC1
            have hlt1 := hA.2.1.lt
            have hlt2 := hR.ltg
            clear hA hR hB hA1 hR1 hB1 hC1
            have hsz : ∀ S, S ∈ T → (S.size : Int) = size := by
              intro S hS
              obtain ⟨j, hj⟩ := List.getElem?_of_mem hS
              have := hAg.size (slot_length L HA1.out.2.2) (by omega) hj
              omega
            have hTl : (T.length : Int) = n := by omega
            have G6 := fun w' h => ref_writes w' x g T h size hsz hz1 xs xa xt
            have G7 := fun w' h => ref_find w' x g T h xt (by omega)
            rw [hTl] at G6 G7
            have G6 := hide G6
            have G7 := hide G7
            have hAgw := hide (agree_write hAg (slot_length L HA1.out.2.2) hTn hz0 hz1 xs xa xt)
            have hqr := writeCode_range size n xs xa xt
            have hq1 : IntKind.i64.wrap (writeCode size n xs xa xt) = writeCode size n xs xa xt := wrap_i64 (by omega) (by omega)
            have HAg := hide hAg
            have HTn := hide hTn
            have hkw : IntKind.i64.wrap ((k : Int) + 1) = (k : Int) + 1 := wrap_i64 (by omega) (by omega)
            clear hsz hTl hAg hTn
            rcases (show xd % 5 = 0 ∨ xd % 5 = 1 ∨ xd % 5 = 2 ∨ xd % 5 = 3 ∨ xd % 5 = 4 from by omega) with hr | hr | hr | hr | hr
            · go_wp2_with fail
              clear e0 e1 e2 e3
              generalize wr.alloc (.cells #[.int .u8 xd, .int .i64 xs, .int .i64 xa, .string xt] 34) = W0 at *
              generalize wr.heap.size = cq at *
              have c1 := HC1.out.cell 1
              have c2 := HC1.out.cell 2
              have c3 := HC1.out.cell 3
              simp at c1 c2 c3
              have hne1 : ¬ cq = mb := by omega
              have hne2 : ¬ cq = g := by omega
              have hAd : ArrIs W0.drew b mb size n L := HA1.out
              have hRd : RefIs W0.drew x g T := HR1.out
              have hCd : Has W0.drew cq 34 #[.int .u8 xd, .int .i64 xs, .int .i64 xa, .string xt] := HC1.out
              go_region_held3 (fun w' => w'.cell? ⟨cq, 1, none⟩ = some (.int .i64 xs) ∧ w'.cell? ⟨cq, 2, none⟩ = some (.int .i64 xa) ∧ w'.cell? ⟨cq, 3, none⟩ = some (.string xt))
                (first
                  | go_keep
                  | (go_split_ands; exact ⟨t6.cell (by assumption) hne2, t6.cell (by assumption) hne2, t6.cell (by assumption) hne2⟩)
                  | exact ⟨t5.cell (by assumption) hne1, t5.cell (by assumption) hne1, t5.cell (by assumption) hne1⟩)
                (first
                  | (go_at_call 13; refine (arr_writes _ b mb size n L hAd xs xa xt hz0 hz1 XO.out.1 (by omega)).mono ?_; rintro e w4 ⟨rfl, hA4, t5⟩)
                  | (go_at_call 14; refine (G6.out _ (hRd.turned_map hAd t5)).mono ?_; rintro e w5 ⟨rfl, hR5, t6⟩))
              have hA5w := hide (hA4.turned_row (hRd.turned_map hAd t5) t6)
              have hR5w := hide hR5
              have hC5 := hide ((hCd.turned t5 hne1).turned t6 hne2)
              have hB5 := hide ((Below.drew HB1.out).trans ((t5.below HB1.out.size (fun j hj => by rw [hj]; exact hmb1)).trans (t6.below (Nat.le_trans HB1.out.size t5.size) (fun j hj => by rw [hj]; exact hgw))))
              have hAgww := hAgw
              clear t5 t6 hAd hRd hCd hA4 hR5 hAgw c1 c2 c3
              obtain ⟨L5, T5, hA5, hR5, hAgw⟩ : ∃ L5 T5, Hid (ArrIs w5 b mb size n L5) ∧ Hid (RefIs w5 x g T5) ∧ Hid (Agree size.toNat L5 T5 ∧ T5.length = n.toNat) := ⟨_, _, hA5w, hR5w, hAgww⟩
              clear hA5w hR5w hAgww
              generalize writeCode size n xs xa xt = q at *
              clear G6 G7 HA1 HR1 HB1 HC1
              by_cases hth : 0 ≤ xs ∧ xs < n
              · obtain ⟨xk, rfl⟩ := Int.eq_ofNat_of_zero_le hth.1
                have hth2 := hth.2
                have hth3 : ¬ ((xk : Int) < 0) := by omega
                have hth4 : decide ((xk : Int) < n) = true := decide_eq_true hth.2
                have c1 := hC5.out.cell 1
                simp at c1
                go_wp2_with fail
                refine (arr_get w5 b mb size n L5 hA5.out xk (by omega) hth2 hz0 hz1 XO.out.1).mono ?_
                rintro e w6 ⟨rfl, hb6⟩
                have hS : T5[xk]? = some (strOfNums ((slotOf L5 xk).take size.toNat)) := hAgw.out.1 xk (by rw [hAgw.out.2]; omega)
                generalize strOfNums ((slotOf L5 xk).take size.toNat) = S at *
                have hR6 := hR5.out.below hb6
                have hA6 := hide (hA5.out.below hb6)
                have hC6 := hC5.out.below hb6 hC5.out.lt
                have hB6 := hide (hB5.out.trans (hb6.mono hB5.out.size))
                have s1 := hR6.cell hS
                have d1 := hC6.cell 1
                simp at d1
                have HR6 := hide hR6
                obtain ⟨cap, cur, hx6, _, _, hcap, hcap2, _⟩ := hR6
                have x0 := hx6.cell 0
                simp at x0
                unfold maxLen at hcap2
                have hTl : T5.length = n.toNat := hAgw.out.2
                have hxl : xk < T5.length := by omega
                clear hb6 hC6 hx6 hS c1
                go_wp2_with fail
                go_quiet (fail)
                go_wp2_with fail
                exact ⟨⟨k + 1, L5, T5, by omega, by simp, hA6.out, HR6.out, hAgw.out.2, hAgw.out.1, Below.drewN_ hB6.out _⟩, by simp [intOf]; omega⟩
              · have c1 := hC5.out.cell 1
                simp at c1
                go_wp2_with fail
                refine (arr_get_none w5 b mb size n L5 hA5.out xs hth).mono ?_
                rintro e w6 ⟨rfl, hb6⟩
                have hC6 := hC5.out.below hb6 hC5.out.lt
                have hR6 := hide (hR5.out.below hb6)
                have hA6 := hide (hA5.out.below hb6)
                have hB6 := hide (hB5.out.trans (hb6.mono hB5.out.size))
                have d1 := hC6.cell 1
                simp at d1
                clear hb6 hC6 c1
                have hdd : (decide (0 ≤ xs) && decide (xs < n)) = false := by
                  cases h : (decide (0 ≤ xs) && decide (xs < n)) with
                  | false => rfl
                  | true => exact absurd (by simpa using h) hth
                by_cases hth3 : xs < 0
                · go_wp2_with fail
                  go_quiet (fail)
                  go_wp2_with fail
                  exact ⟨⟨k + 1, L5, T5, by omega, by simp, hA6.out, hR6.out, hAgw.out.2, hAgw.out.1, Below.drewN_ hB6.out _⟩, by simp [intOf]; omega⟩
                · have hth4 : decide (xs < n) = false := decide_eq_false (by omega)
                  go_wp2_with fail
                  go_quiet (fail)
                  go_wp2_with fail
                  exact ⟨⟨k + 1, L5, T5, by omega, by simp, hA6.out, hR6.out, hAgw.out.2, hAgw.out.1, Below.drewN_ hB6.out _⟩, by simp [intOf]; omega⟩
            · go_wp2_with fail
              clear e0 e1 e2 e3
              generalize wr.alloc (.cells #[.int .u8 xd, .int .i64 xs, .int .i64 xa, .string xt] 34) = W0 at *
              generalize wr.heap.size = cq at *
              have c1 := HC1.out.cell 1
              have c2 := HC1.out.cell 2
              have c3 := HC1.out.cell 3
              simp at c1 c2 c3
              have hne1 : ¬ cq = mb := by omega
              have hne2 : ¬ cq = g := by omega
              have hAd : ArrIs W0.drew b mb size n L := HA1.out
              have hRd : RefIs W0.drew x g T := HR1.out
              have hCd : Has W0.drew cq 34 #[.int .u8 xd, .int .i64 xs, .int .i64 xa, .string xt] := HC1.out
              go_region_held3 (fun w' => w'.cell? ⟨cq, 1, none⟩ = some (.int .i64 xs) ∧ w'.cell? ⟨cq, 2, none⟩ = some (.int .i64 xa) ∧ w'.cell? ⟨cq, 3, none⟩ = some (.string xt))
                (first
                  | go_keep
                  | (go_split_ands; exact ⟨t6.cell (by assumption) hne2, t6.cell (by assumption) hne2, t6.cell (by assumption) hne2⟩)
                  | exact ⟨t5.cell (by assumption) hne1, t5.cell (by assumption) hne1, t5.cell (by assumption) hne1⟩)
                (first
                  | (go_at_call 13; refine (arr_writes _ b mb size n L hAd xs xa xt hz0 hz1 XO.out.1 (by omega)).mono ?_; rintro e w4 ⟨rfl, hA4, t5⟩)
                  | (go_at_call 14; refine (G6.out _ (hRd.turned_map hAd t5)).mono ?_; rintro e w5 ⟨rfl, hR5, t6⟩))
              have hA5w := hide (hA4.turned_row (hRd.turned_map hAd t5) t6)
              have hR5w := hide hR5
              have hC5 := hide ((hCd.turned t5 hne1).turned t6 hne2)
              have hB5 := hide ((Below.drew HB1.out).trans ((t5.below HB1.out.size (fun j hj => by rw [hj]; exact hmb1)).trans (t6.below (Nat.le_trans HB1.out.size t5.size) (fun j hj => by rw [hj]; exact hgw))))
              have hAgww := hAgw
              clear t5 t6 hAd hRd hCd hA4 hR5 hAgw c1 c2 c3
              obtain ⟨L5, T5, hA5, hR5, hAgw⟩ : ∃ L5 T5, Hid (ArrIs w5 b mb size n L5) ∧ Hid (RefIs w5 x g T5) ∧ Hid (Agree size.toNat L5 T5 ∧ T5.length = n.toNat) := ⟨_, _, hA5w, hR5w, hAgww⟩
              clear hA5w hR5w hAgww
              generalize writeCode size n xs xa xt = q at *
              clear G6 G7 HA1 HR1 HB1 HC1
              by_cases hth : 0 ≤ xs ∧ xs < n
              · obtain ⟨xk, rfl⟩ := Int.eq_ofNat_of_zero_le hth.1
                have hth2 := hth.2
                have hth3 : ¬ ((xk : Int) < 0) := by omega
                have hth4 : decide ((xk : Int) < n) = true := decide_eq_true hth.2
                have c1 := hC5.out.cell 1
                simp at c1
                go_wp2_with fail
                refine (arr_get w5 b mb size n L5 hA5.out xk (by omega) hth2 hz0 hz1 XO.out.1).mono ?_
                rintro e w6 ⟨rfl, hb6⟩
                have hS : T5[xk]? = some (strOfNums ((slotOf L5 xk).take size.toNat)) := hAgw.out.1 xk (by rw [hAgw.out.2]; omega)
                generalize strOfNums ((slotOf L5 xk).take size.toNat) = S at *
                have hR6 := hR5.out.below hb6
                have hA6 := hide (hA5.out.below hb6)
                have hC6 := hC5.out.below hb6 hC5.out.lt
                have hB6 := hide (hB5.out.trans (hb6.mono hB5.out.size))
                have s1 := hR6.cell hS
                have d1 := hC6.cell 1
                simp at d1
                have HR6 := hide hR6
                obtain ⟨cap, cur, hx6, _, _, hcap, hcap2, _⟩ := hR6
                have x0 := hx6.cell 0
                simp at x0
                unfold maxLen at hcap2
                have hTl : T5.length = n.toNat := hAgw.out.2
                have hxl : xk < T5.length := by omega
                clear hb6 hC6 hx6 hS c1
                go_wp2_with fail
                go_quiet (fail)
                go_wp2_with fail
                exact ⟨⟨k + 1, L5, T5, by omega, by simp, hA6.out, HR6.out, hAgw.out.2, hAgw.out.1, Below.drewN_ hB6.out _⟩, by simp [intOf]; omega⟩
              · have c1 := hC5.out.cell 1
                simp at c1
                go_wp2_with fail
                refine (arr_get_none w5 b mb size n L5 hA5.out xs hth).mono ?_
                rintro e w6 ⟨rfl, hb6⟩
                have hC6 := hC5.out.below hb6 hC5.out.lt
                have hR6 := hide (hR5.out.below hb6)
                have hA6 := hide (hA5.out.below hb6)
                have hB6 := hide (hB5.out.trans (hb6.mono hB5.out.size))
                have d1 := hC6.cell 1
                simp at d1
                clear hb6 hC6 c1
                have hdd : (decide (0 ≤ xs) && decide (xs < n)) = false := by
                  cases h : (decide (0 ≤ xs) && decide (xs < n)) with
                  | false => rfl
                  | true => exact absurd (by simpa using h) hth
                by_cases hth3 : xs < 0
                · go_wp2_with fail
                  go_quiet (fail)
                  go_wp2_with fail
                  exact ⟨⟨k + 1, L5, T5, by omega, by simp, hA6.out, hR6.out, hAgw.out.2, hAgw.out.1, Below.drewN_ hB6.out _⟩, by simp [intOf]; omega⟩
                · have hth4 : decide (xs < n) = false := decide_eq_false (by omega)
                  go_wp2_with fail
                  go_quiet (fail)
                  go_wp2_with fail
                  exact ⟨⟨k + 1, L5, T5, by omega, by simp, hA6.out, hR6.out, hAgw.out.2, hAgw.out.1, Below.drewN_ hB6.out _⟩, by simp [intOf]; omega⟩
            · go_wp2_with fail
              clear e0 e1 e2 e3
              generalize wr.alloc (.cells #[.int .u8 xd, .int .i64 xs, .int .i64 xa, .string xt] 34) = W0 at *
              generalize wr.heap.size = cq at *
              have c1 := HC1.out.cell 1
              have c2 := HC1.out.cell 2
              have c3 := HC1.out.cell 3
              simp at c1 c2 c3
              have hne1 : ¬ cq = mb := by omega
              have hne2 : ¬ cq = g := by omega
              have hAd : ArrIs W0.drew b mb size n L := HA1.out
              have hRd : RefIs W0.drew x g T := HR1.out
              have hCd : Has W0.drew cq 34 #[.int .u8 xd, .int .i64 xs, .int .i64 xa, .string xt] := HC1.out
              go_region_held3 (fun w' => w'.cell? ⟨cq, 1, none⟩ = some (.int .i64 xs) ∧ w'.cell? ⟨cq, 2, none⟩ = some (.int .i64 xa) ∧ w'.cell? ⟨cq, 3, none⟩ = some (.string xt))
                (first
                  | go_keep
                  | (go_split_ands; exact ⟨t6.cell (by assumption) hne2, t6.cell (by assumption) hne2, t6.cell (by assumption) hne2⟩)
                  | exact ⟨t5.cell (by assumption) hne1, t5.cell (by assumption) hne1, t5.cell (by assumption) hne1⟩)
                (first
                  | (go_at_call 13; refine (arr_writes _ b mb size n L hAd xs xa xt hz0 hz1 XO.out.1 (by omega)).mono ?_; rintro e w4 ⟨rfl, hA4, t5⟩)
                  | (go_at_call 14; refine (G6.out _ (hRd.turned_map hAd t5)).mono ?_; rintro e w5 ⟨rfl, hR5, t6⟩))
              have hA5w := hide (hA4.turned_row (hRd.turned_map hAd t5) t6)
              have hR5w := hide hR5
              have hC5 := hide ((hCd.turned t5 hne1).turned t6 hne2)
              have hB5 := hide ((Below.drew HB1.out).trans ((t5.below HB1.out.size (fun j hj => by rw [hj]; exact hmb1)).trans (t6.below (Nat.le_trans HB1.out.size t5.size) (fun j hj => by rw [hj]; exact hgw))))
              have hAgww := hAgw
              clear t5 t6 hAd hRd hCd hA4 hR5 hAgw c1 c2 c3
              obtain ⟨L5, T5, hA5, hR5, hAgw⟩ : ∃ L5 T5, Hid (ArrIs w5 b mb size n L5) ∧ Hid (RefIs w5 x g T5) ∧ Hid (Agree size.toNat L5 T5 ∧ T5.length = n.toNat) := ⟨_, _, hA5w, hR5w, hAgww⟩
              clear hA5w hR5w hAgww
              generalize writeCode size n xs xa xt = q at *
              clear G6 G7 HA1 HR1 HB1 HC1
              by_cases hth : 0 ≤ xs ∧ xs < n
              · obtain ⟨xk, rfl⟩ := Int.eq_ofNat_of_zero_le hth.1
                have hth2 := hth.2
                have hth3 : ¬ ((xk : Int) < 0) := by omega
                have hth4 : decide ((xk : Int) < n) = true := decide_eq_true hth.2
                have c1 := hC5.out.cell 1
                simp at c1
                go_wp2_with fail
                refine (arr_get w5 b mb size n L5 hA5.out xk (by omega) hth2 hz0 hz1 XO.out.1).mono ?_
                rintro e w6 ⟨rfl, hb6⟩
                have hS : T5[xk]? = some (strOfNums ((slotOf L5 xk).take size.toNat)) := hAgw.out.1 xk (by rw [hAgw.out.2]; omega)
                generalize strOfNums ((slotOf L5 xk).take size.toNat) = S at *
                have hR6 := hR5.out.below hb6
                have hA6 := hide (hA5.out.below hb6)
                have hC6 := hC5.out.below hb6 hC5.out.lt
                have hB6 := hide (hB5.out.trans (hb6.mono hB5.out.size))
                have s1 := hR6.cell hS
                have d1 := hC6.cell 1
                simp at d1
                have HR6 := hide hR6
                obtain ⟨cap, cur, hx6, _, _, hcap, hcap2, _⟩ := hR6
                have x0 := hx6.cell 0
                simp at x0
                unfold maxLen at hcap2
                have hTl : T5.length = n.toNat := hAgw.out.2
                have hxl : xk < T5.length := by omega
                clear hb6 hC6 hx6 hS c1
                go_wp2_with fail
                go_quiet (fail)
                go_wp2_with fail
                exact ⟨⟨k + 1, L5, T5, by omega, by simp, hA6.out, HR6.out, hAgw.out.2, hAgw.out.1, Below.drewN_ hB6.out _⟩, by simp [intOf]; omega⟩
              · have c1 := hC5.out.cell 1
                simp at c1
                go_wp2_with fail
                refine (arr_get_none w5 b mb size n L5 hA5.out xs hth).mono ?_
                rintro e w6 ⟨rfl, hb6⟩
                have hC6 := hC5.out.below hb6 hC5.out.lt
                have hR6 := hide (hR5.out.below hb6)
                have hA6 := hide (hA5.out.below hb6)
                have hB6 := hide (hB5.out.trans (hb6.mono hB5.out.size))
                have d1 := hC6.cell 1
                simp at d1
                clear hb6 hC6 c1
                have hdd : (decide (0 ≤ xs) && decide (xs < n)) = false := by
                  cases h : (decide (0 ≤ xs) && decide (xs < n)) with
                  | false => rfl
                  | true => exact absurd (by simpa using h) hth
                by_cases hth3 : xs < 0
                · go_wp2_with fail
                  go_quiet (fail)
                  go_wp2_with fail
                  exact ⟨⟨k + 1, L5, T5, by omega, by simp, hA6.out, hR6.out, hAgw.out.2, hAgw.out.1, Below.drewN_ hB6.out _⟩, by simp [intOf]; omega⟩
                · have hth4 : decide (xs < n) = false := decide_eq_false (by omega)
                  go_wp2_with fail
                  go_quiet (fail)
                  go_wp2_with fail
                  exact ⟨⟨k + 1, L5, T5, by omega, by simp, hA6.out, hR6.out, hAgw.out.2, hAgw.out.1, Below.drewN_ hB6.out _⟩, by simp [intOf]; omega⟩
            · go_wp2_with fail
              clear e0 e1 e2 e3
              refine (arr_find _ b mb size n L HA1.out xt (by omega)).mono ?_
              rintro e w4 ⟨rfl, rfl⟩
              have hfr : IntKind.i64.wrap (findOf xt n).2 = (findOf xt n).2 := by
                unfold findOf
                split
                · split <;> rfl
                · rfl
              generalize (findOf xt n).1 = f1 at *
              generalize (findOf xt n).2 = f2 at *
              go_wp2_with fail
              refine (G7.out _ HR1.out).mono ?_
              rintro e w5 ⟨rfl, rfl⟩
              generalize hW : wr.alloc (.cells #[.int .u8 xd, .int .i64 xs, .int .i64 xa, .string xt] 34) = w5 at *
              clear hW
              generalize wr.heap.size = cq at *
              have hC5 := HC1
              have hB5 := HB1
              clear hAgw
              obtain ⟨L5, T5, hA5, hR5, hAgw⟩ : ∃ L5 T5, Hid (ArrIs w5 b mb size n L5) ∧ Hid (RefIs w5 x g T5) ∧ Hid (Agree size.toNat L5 T5 ∧ T5.length = n.toNat) := ⟨L, T, HA1, HR1, hide ⟨HAg.out, HTn.out⟩⟩
              clear G6 G7 HA1 HR1 HB1 HC1
              by_cases hth : 0 ≤ xs ∧ xs < n
              · obtain ⟨xk, rfl⟩ := Int.eq_ofNat_of_zero_le hth.1
                have hth2 := hth.2
                have hth3 : ¬ ((xk : Int) < 0) := by omega
                have hth4 : decide ((xk : Int) < n) = true := decide_eq_true hth.2
                have c1 := hC5.out.cell 1
                simp at c1
                go_wp2_with fail
                refine (arr_get w5 b mb size n L5 hA5.out xk (by omega) hth2 hz0 hz1 XO.out.1).mono ?_
                rintro e w6 ⟨rfl, hb6⟩
                have hS : T5[xk]? = some (strOfNums ((slotOf L5 xk).take size.toNat)) := hAgw.out.1 xk (by rw [hAgw.out.2]; omega)
                generalize strOfNums ((slotOf L5 xk).take size.toNat) = S at *
                have hR6 := hR5.out.below hb6
                have hA6 := hide (hA5.out.below hb6)
                have hC6 := hC5.out.below hb6 hC5.out.lt
                have hB6 := hide (hB5.out.trans (hb6.mono hB5.out.size))
                have s1 := hR6.cell hS
                have d1 := hC6.cell 1
                simp at d1
                have HR6 := hide hR6
                obtain ⟨cap, cur, hx6, _, _, hcap, hcap2, _⟩ := hR6
                have x0 := hx6.cell 0
                simp at x0
                unfold maxLen at hcap2
                have hTl : T5.length = n.toNat := hAgw.out.2
                have hxl : xk < T5.length := by omega
                clear hb6 hC6 hx6 hS c1
                go_wp2_with fail
                go_quiet (fail)
                go_wp2_with fail
                exact ⟨⟨k + 1, L5, T5, by omega, by simp, hA6.out, HR6.out, hAgw.out.2, hAgw.out.1, Below.drewN_ hB6.out _⟩, by simp [intOf]; omega⟩
              · have c1 := hC5.out.cell 1
                simp at c1
                go_wp2_with fail
                refine (arr_get_none w5 b mb size n L5 hA5.out xs hth).mono ?_
                rintro e w6 ⟨rfl, hb6⟩
                have hC6 := hC5.out.below hb6 hC5.out.lt
                have hR6 := hide (hR5.out.below hb6)
                have hA6 := hide (hA5.out.below hb6)
                have hB6 := hide (hB5.out.trans (hb6.mono hB5.out.size))
                have d1 := hC6.cell 1
                simp at d1
                clear hb6 hC6 c1
                have hdd : (decide (0 ≤ xs) && decide (xs < n)) = false := by
                  cases h : (decide (0 ≤ xs) && decide (xs < n)) with
                  | false => rfl
                  | true => exact absurd (by simpa using h) hth
                by_cases hth3 : xs < 0
                · go_wp2_with fail
                  go_quiet (fail)
                  go_wp2_with fail
                  exact ⟨⟨k + 1, L5, T5, by omega, by simp, hA6.out, hR6.out, hAgw.out.2, hAgw.out.1, Below.drewN_ hB6.out _⟩, by simp [intOf]; omega⟩
                · have hth4 : decide (xs < n) = false := decide_eq_false (by omega)
                  go_wp2_with fail
                  go_quiet (fail)
                  go_wp2_with fail
                  exact ⟨⟨k + 1, L5, T5, by omega, by simp, hA6.out, hR6.out, hAgw.out.2, hAgw.out.1, Below.drewN_ hB6.out _⟩, by simp [intOf]; omega⟩
            · go_wp2_with fail
              clear e0 e1 e2 e3
              generalize hW : wr.alloc (.cells #[.int .u8 xd, .int .i64 xs, .int .i64 xa, .string xt] 34) = w5 at *
              clear hW
              generalize wr.heap.size = cq at *
              have hC5 := HC1
              have hB5 := HB1
              clear hAgw
              obtain ⟨L5, T5, hA5, hR5, hAgw⟩ : ∃ L5 T5, Hid (ArrIs w5 b mb size n L5) ∧ Hid (RefIs w5 x g T5) ∧ Hid (Agree size.toNat L5 T5 ∧ T5.length = n.toNat) := ⟨L, T, HA1, HR1, hide ⟨HAg.out, HTn.out⟩⟩
              clear G6 G7 HA1 HR1 HB1 HC1
              by_cases hth : 0 ≤ xs ∧ xs < n
              · obtain ⟨xk, rfl⟩ := Int.eq_ofNat_of_zero_le hth.1
                have hth2 := hth.2
                have hth3 : ¬ ((xk : Int) < 0) := by omega
                have hth4 : decide ((xk : Int) < n) = true := decide_eq_true hth.2
                have c1 := hC5.out.cell 1
                simp at c1
                go_wp2_with fail
                refine (arr_get w5 b mb size n L5 hA5.out xk (by omega) hth2 hz0 hz1 XO.out.1).mono ?_
                rintro e w6 ⟨rfl, hb6⟩
                have hS : T5[xk]? = some (strOfNums ((slotOf L5 xk).take size.toNat)) := hAgw.out.1 xk (by rw [hAgw.out.2]; omega)
                generalize strOfNums ((slotOf L5 xk).take size.toNat) = S at *
                have hR6 := hR5.out.below hb6
                have hA6 := hide (hA5.out.below hb6)
                have hC6 := hC5.out.below hb6 hC5.out.lt
                have hB6 := hide (hB5.out.trans (hb6.mono hB5.out.size))
                have s1 := hR6.cell hS
                have d1 := hC6.cell 1
                simp at d1
                have HR6 := hide hR6
                obtain ⟨cap, cur, hx6, _, _, hcap, hcap2, _⟩ := hR6
                have x0 := hx6.cell 0
                simp at x0
                unfold maxLen at hcap2
                have hTl : T5.length = n.toNat := hAgw.out.2
                have hxl : xk < T5.length := by omega
                clear hb6 hC6 hx6 hS c1
                go_wp2_with fail
                go_quiet (fail)
                go_wp2_with fail
                exact ⟨⟨k + 1, L5, T5, by omega, by simp, hA6.out, HR6.out, hAgw.out.2, hAgw.out.1, Below.drewN_ hB6.out _⟩, by simp [intOf]; omega⟩
              · have c1 := hC5.out.cell 1
                simp at c1
                go_wp2_with fail
                refine (arr_get_none w5 b mb size n L5 hA5.out xs hth).mono ?_
                rintro e w6 ⟨rfl, hb6⟩
                have hC6 := hC5.out.below hb6 hC5.out.lt
                have hR6 := hide (hR5.out.below hb6)
                have hA6 := hide (hA5.out.below hb6)
                have hB6 := hide (hB5.out.trans (hb6.mono hB5.out.size))
                have d1 := hC6.cell 1
                simp at d1
                clear hb6 hC6 c1
                have hdd : (decide (0 ≤ xs) && decide (xs < n)) = false := by
                  cases h : (decide (0 ≤ xs) && decide (xs < n)) with
                  | false => rfl
                  | true => exact absurd (by simpa using h) hth
                by_cases hth3 : xs < 0
                · go_wp2_with fail
                  go_quiet (fail)
                  go_wp2_with fail
                  exact ⟨⟨k + 1, L5, T5, by omega, by simp, hA6.out, hR6.out, hAgw.out.2, hAgw.out.1, Below.drewN_ hB6.out _⟩, by simp [intOf]; omega⟩
                · have hth4 : decide (xs < n) = false := decide_eq_false (by omega)
                  go_wp2_with fail
                  go_quiet (fail)
                  go_wp2_with fail
                  exact ⟨⟨k + 1, L5, T5, by omega, by simp, hA6.out, hR6.out, hAgw.out.2, hAgw.out.1, Below.drewN_ hB6.out _⟩, by simp [intOf]; omega⟩
        · go_wp2_with fail
          refine (arr_alive wr).mono ?_
          rintro e w6 ⟨rfl, hb6⟩
          go_wp2_with fail
          go_ret
          exact ⟨rfl, hB.trans (hb6.mono hB.size)⟩
    · go_enter Try.func3, Try.ntmps3
      go_wp2_with fail
      refine (arr_new_bad w size n hmay).mono ?_
      rintro e w1 ⟨rfl, rfl⟩
      go_wp2_with fail
      refine (ref_new_bad w size n hmay).mono ?_
      rintro e w1 ⟨rfl, rfl⟩
      go_wp2_with fail
      refine (arr_alive _).mono ?_
      rintro e w1 ⟨rfl, hb⟩
      go_wp2
      go_ret
      exact ⟨rfl, hb⟩

end Go.Proofs.Ytjfcpajajaigfaa
