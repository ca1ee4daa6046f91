import Derived.Test.YtcddpmiandgkjaaStkD
import Derived.Deep.WholeRow
/-! Package stack: Store whole, New, Copy, of the program. -/
namespace Go.Proofs.Ytcddpmiandgkjaa
open Go.RowKit Go.Maps Go.Lib
set_option maxHeartbeats 1000000
set_option maxRecDepth 100000
set_option linter.unusedSimpArgs false
set_option linter.unusedVariables false

theorem clrN_even (l : List AV) (f : Nat) (hf : f % 8 = 0) (v : AV) : ∀ n, n ≤ 7 → (clrN l f (n + 1)).set (f / 8) v = l.set (f / 8) v
  | 0, _ => by
    unfold clrN clrN
    rw [show (f + 0) / 8 = f / 8 by omega, List.set_set]
  | n + 1, h => by
    have := clrN_even l f hf v n (by omega)
    rw [clrN, show (f + (n + 1)) / 8 = f / 8 by omega, List.set_set]
    exact this

/-- A value that is no number. -/
def AV.spare (v : AV) : Prop := v.is = true ∧ v.numOf = none

theorem AV.spare_num {v : AV} (h : v.spare) : v.isNum = .tuple #[.int .u64 0, .bool false] := by
  obtain ⟨h1, h2⟩ := h
  cases v <;> first | rfl | (cases h2; done) | (cases h1; done)

theorem stk_store_ptr (w : World) (p mb : Nat) (σ : Stk) (h : StkIs w p mb σ) (a : Int) (f : Nat) (hf : a + 128 = f) (hi : stkIn a 8 = true) (hf8 : f % 8 = 0) (v : AV) (hv : v.spare) :
    Calls Try.prog 12 #[.pointer (some ⟨p, 0, none⟩), .int .i64 a, .int .i64 8, v.enc] w fun e w' => e = .returned (.int .i64 0) ∧ StkIs w' p mb (σ.spill f v) ∧ Turned (fun q => q = p ∨ q = mb) w w' := by
  obtain ⟨hn, ha0, ha1⟩ := load_in σ a 8 hi
  have hfm : f + 8 ≤ 128 := by omega
  clear hn ha0 ha1
  have H := hide h
  have C0 := val_number w v
  rw [AV.spare_num hv] at C0
  have C0 := hide C0
  have C := hide (fun W (h : StkIs W p mb σ) => stk_none W p mb h.cmap)
  have C2 := stk_within w a 8
  rw [hi] at C2
  have C2 := hide C2
  have C3 := fun W => val_isv W v
  rw [hv.1] at C3
  have C3 := hide C3
  have hw2 : IntKind.i64.wrap (a + 128) = (f : Int) := by rw [wrap_i64 (by omega) (by omega)]; exact hf
  have hw3 : ((f : Int).tmod 8 != 0) = false := by rw [(tmod8 f).2 (by omega)]; rfl
  have hw4 : ((f : Int) % 8 != 0) = false := by rw [show (f : Int) % 8 = 0 by omega]; rfl
  have HF := hide hf
  have HV := hide hv
  have hf8i : (f : Int) % 8 = 0 := by omega
  have hdv : (8 : Int) ∣ (f : Int) := by omega
  clear h hi hf hv
  obtain ⟨z, hz⟩ : ∃ z, z = v.enc := ⟨_, rfl⟩
  rw [← hz] at C0 C3 ⊢
  have HZ := hide hz
  clear hz
  go_enter Try.func12, Try.ntmps12
  go_wp2_with fail
  refine C0.out.mono ?_
  rintro e w1 ⟨rfl, rfl⟩
  go_wp2_with fail
  refine (C.out _ H.out).mono ?_
  rintro e w1 ⟨rfl, rfl⟩
  go_wp2_with fail
  refine C2.out.mono ?_
  rintro e w1 ⟨rfl, hb⟩
  go_wp2_with fail
  refine (C3.out _).mono ?_
  rintro e w2 ⟨rfl, hb2⟩
  replace hb2 := below_on hb hb2
  clear hb
  go_wp2_with fail
  go_loopw [45] (fun i wr => ∃ k : Nat, k ≤ 8 ∧ i = .int .i64 k ∧ StkIs wr p mb (σ.mid f false k) ∧ Turned (fun q => q = p ∨ q = mb) w wr) (fun i _ => 8 - (intOf i).toNat)
  case atStart => exact ⟨0, Nat.zero_le _, rfl, H.out.below hb2, Turned.of_below hb2⟩
  case round =>
    obtain ⟨k, hk, rfl, hS, hT⟩ := hrel
    have cm := hS.cmap
    have HS := hide hS
    have HT := hide hT
    clear hS hT
    by_cases hlt : k < 8
    · have hki : (k : Int) < 8 := by omega
      have hc := HS.out.cset (j := f + k) (by omega)
      have hfr := HS.out.free (128 + (f + k))
      have hs1 := HS.out.setS (j := f + k) (by omega) false
      have cm1 := hs1.cmap
      obtain ⟨w3, hd, hs3, ht3⟩ := hs1.del (k := (f + k) / 8) (by omega) 0
      rw [show (((f + k) / 8 : Nat) : Int) = ((f : Int) + (k : Int)) / 8 by omega] at hd
      have HS3 := hide hs3
      have HT3 := hide ((HT.out.set (p := ⟨p, 128 + (f + k), none⟩) (fun _ => .inl rfl) (.bool false)).trans ht3)
      clear hs1 hs3 ht3
      go_wp2_with fail
      exact ⟨⟨k + 1, by omega, by simp, HS3.out, HT3.out⟩, by simp [intOf]; omega⟩
    · have hkm : k = 8 := by omega
      subst hkm
      obtain ⟨w4, hp, hs4, ht4⟩ := HS.out.put (k := f / 8) (by omega) v HV.out.1
      rw [show ((f / 8 : Nat) : Int) = (f : Int) / 8 by omega, ← HZ.out] at hp
      have HS4 := hide hs4
      have HT4 := hide (HT.out.trans ht4)
      clear hs4 ht4
      go_wp2_with fail
      go_ret
      refine ⟨rfl, ?_, HT4.out⟩
      have : ({ (σ.mid f false 8) with l := (σ.mid f false 8).l.set (f / 8) v } : Stk) = σ.spill f v := by
        unfold Stk.spill Stk.mid
        simp only []
        rw [clrN_even σ.l f hf8 v 7 (by omega)]
      rw [← this]
      exact HS4.out

theorem AV.num_form (v : AV) : (∃ x, v.isNum = .tuple #[.int .u64 x, .bool true] ∧ v = .num x) ∨ (v.isNum = .tuple #[.int .u64 0, .bool false] ∧ v.numOf = none) := by
  cases v <;> first | exact .inl ⟨_, rfl, rfl⟩ | exact .inr ⟨rfl, rfl⟩

/-- Numbers of values fit. -/
def AV.fits : AV → Prop
  | .num x => 0 ≤ x ∧ x < 18446744073709551616
  | _ => True

theorem stk_store (w : World) (p mb : Nat) (σ : Stk) (h : StkIs w p mb σ) (a n : Int) (v : AV) (hv : v.fits) :
    Calls Try.prog 12 #[.pointer (some ⟨p, 0, none⟩), .int .i64 a, .int .i64 n, v.enc] w fun e w' => e = .returned (.int .i64 (σ.store a n v).2) ∧ StkIs w' p mb (σ.store a n v).1 ∧ Turned (fun q => q = p ∨ q = mb) w w' := by
  obtain ⟨q, b, hq⟩ : ∃ q b, v.isNum = .tuple #[.int .u64 q, .bool b] := by
    rcases v.num_form with ⟨x, h, _⟩ | ⟨h, _⟩
    · exact ⟨_, _, h⟩
    · exact ⟨_, _, h⟩
  have H := hide h
  have C := hide (fun W (h : StkIs W p mb σ) => stk_none W p mb h.cmap)
  have C0 := val_number w v
  have C2 := stk_within w a n
  cases hi : stkIn a n with
  | false =>
    rw [hi] at C2
    rw [hq] at C0
    have C2 := hide C2
    have C0 := hide C0
    have hr : σ.store a n v = (σ, 230) := if_pos hi
    rw [hr]
    clear hr hi hv hq h
    generalize v.enc = z at *
    generalize hz : IntKind.i64.wrap (a + 128) = fz
    have HZ := hide hz
    go_enter Try.func12, Try.ntmps12
    go_wp2_with fail
    refine C0.out.mono ?_
    rintro e w1 ⟨rfl, rfl⟩
    go_wp2_with fail
    refine (C.out _ H.out).mono ?_
    rintro e w1 ⟨rfl, rfl⟩
    go_wp2_with fail
    refine C2.out.mono ?_
    rintro e w1 ⟨rfl, hb⟩
    go_wp2_with fail
    go_ret
    exact ⟨rfl, H.out.below hb, Turned.of_below hb⟩
  | true =>
    obtain ⟨hn, ha0, ha1⟩ := load_in σ a n hi
    obtain ⟨f, hf⟩ : ∃ f : Nat, a + 128 = f := ⟨(a + 128).toNat, by omega⟩
    have hft : (a + 128).toNat = f := by omega
    have hw2 : IntKind.i64.wrap (a + 128) = (f : Int) := by rw [wrap_i64 (by omega) (by omega)]; exact hf
    rw [hi] at C2
    have C3 := fun W => val_isv W v
    cases his : v.is with
    | false =>
      rw [his] at C3
      rw [hq] at C0
      have C2 := hide C2
      have C0 := hide C0
      have C3 := hide C3
      have hr : σ.store a n v = (σ, 220) := by unfold Stk.store; rw [if_neg (by simp [hi]), if_pos his]
      rw [hr]
      have HF := hide hf
      clear hr hi hv hq h hf hft hn ha0 ha1
      generalize v.enc = z at *
      go_enter Try.func12, Try.ntmps12
      go_wp2_with fail
      refine C0.out.mono ?_
      rintro e w1 ⟨rfl, rfl⟩
      go_wp2_with fail
      refine (C.out _ H.out).mono ?_
      rintro e w1 ⟨rfl, rfl⟩
      go_wp2_with fail
      refine C2.out.mono ?_
      rintro e w1 ⟨rfl, hb⟩
      go_wp2_with fail
      refine (C3.out _).mono ?_
      rintro e w2 ⟨rfl, hb2⟩
      replace hb2 := below_on hb hb2
      clear hb
      go_wp2_with fail
      go_ret
      exact ⟨rfl, H.out.below hb2, Turned.of_below hb2⟩
    | true =>
      rcases v.num_form with ⟨x, hx, rfl⟩ | ⟨hx, hno⟩
      · obtain ⟨m, rfl⟩ : ∃ m : Nat, n = m := ⟨n.toNat, by omega⟩
        have hr : σ.store a m (.num x) = (σ.num f m x, 0) := by unfold Stk.store; rw [if_neg (by simp [hi]), if_neg (by simp [his])]; simp only [AV.numOf, hft, Int.toNat_natCast]
        rw [hr]
        exact stk_store_num w p mb σ h a f m hf hi x hv.1 hv.2
      · by_cases h8 : n = 8 ∧ f % 8 = 0
        · obtain ⟨rfl, h8⟩ := h8
          have hr : σ.store a 8 v = (σ.spill f v, 0) := by unfold Stk.store; rw [if_neg (by simp [hi]), if_neg (by simp [his]), hno]; simp only []; rw [if_pos ⟨trivial, by omega⟩, hft]
          rw [hr]
          exact stk_store_ptr w p mb σ h a f hf hi h8 v ⟨his, hno⟩
        · have hr : σ.store a n v = (σ, 221) := by unfold Stk.store; rw [if_neg (by simp [hi]), if_neg (by simp [his]), hno]; simp only []; rw [if_neg (by omega)]
          rw [hr]
          rw [hx] at C0
          rw [his] at C3
          have C2 := hide C2
          have C0 := hide C0
          have C3 := hide C3
          have HF := hide hf
          have h8i : (n != 8) = true ∨ ((n != 8) = false ∧ ((f : Int) % 8 != 0) = true ∧ n = 8 ∧ ¬ (f : Int) % 8 = 0 ∧ ¬ (8 : Int) ∣ (f : Int)) := by
            by_cases e : n = 8
            · refine .inr ⟨by simp [e], ?_, e, ?_, ?_⟩
              · simp; omega
              · omega
              · omega
            · exact .inl (by simp [e])
          clear hr hi hv hq h hf hft hn ha0 ha1 h8 hx hno
          generalize v.enc = z at *
          rcases h8i with h8 | ⟨h8, h9, rfl, h10, h11⟩
          all_goals
            go_enter Try.func12, Try.ntmps12
            go_wp2_with fail
            refine C0.out.mono ?_
            rintro e w1 ⟨rfl, rfl⟩
            go_wp2_with fail
            refine (C.out _ H.out).mono ?_
            rintro e w1 ⟨rfl, rfl⟩
            go_wp2_with fail
            refine C2.out.mono ?_
            rintro e w1 ⟨rfl, hb⟩
            go_wp2_with fail
            refine (C3.out _).mono ?_
            rintro e w2 ⟨rfl, hb2⟩
            replace hb2 := below_on hb hb2
            clear hb
            go_wp2_with fail
            go_ret
            exact ⟨rfl, H.out.below hb2, Turned.of_below hb2⟩


theorem stk_new (w : World) : Calls Try.prog 11 #[] w fun e w' => ∃ p mb, e = .returned (.pointer (some ⟨p, 0, none⟩)) ∧ StkIs w' p mb Stk.new ∧ w.heap.size ≤ p ∧ w.heap.size ≤ mb ∧ Below w.heap.size w w' := by
  go_enter Try.func11, Try.ntmps11
  go_wp2_with fail
  rw [run_makeMap]
  go_wp2_with fail
  go_ret
  have hc : Try.zeroCells84.setIfInBounds 256 (.map (some w.heap.size)) = Stk.new.cells w.heap.size := by kernel_rfl
  rw [hc]
  have hm := (MapIs.made w intKey intOk).alloc (.cells (Stk.new.cells w.heap.size) 84)
  refine ⟨w.heap.size + 1, w.heap.size, rfl, ⟨?_, ⟨[], hm, ?_⟩, Stk.new_ok⟩, by omega, by omega, ?_⟩
  · have := Has.new (w.alloc (.map #[] 0)) 84 (Stk.new.cells w.heap.size)
    simpa using this
  · intro k hk
    have : Stk.new.l.getD k .nil = .nil := by
      unfold Stk.new
      simp only []
      rw [List.getD_eq_getElem?_getD, List.getElem?_replicate]
      split <;> rfl
    rw [this]
    rfl
  · exact ((Below.refl _ w).alloc (Nat.le_refl _) _).alloc (by simp) _

theorem maps_clone (w : World) (b : Nat) (es : Array MapEntry) (clock : Nat) (hb : w.heap[b]? = some (.map es clock)) :
    Calls Try.prog 48 #[.map (some b)] w fun e w' => e = .returned (.map (some w.heap.size)) ∧ w' = w.alloc (.map es clock) := by
  have hq := fun w => run_eql_map_nil (P := Try.prog) w 82 3 20 (some b) Try.underlying82
  go_enter Try.func48, Try.ntmps48
  go_wp2
  rw [run_callFunc_extern Try.func59 (by kernel_rfl) (by kernel_rfl) (by kernel_rfl) (e := Extern.MapsClone.clone) (by kernel_rfl), run_maps_clone_sl w 82 hb]
  simp only [Result.andThen]
  rw [Oper.upon_value]
  go_wp2
  rw [run_typeAssert_map_sl _ 82 20 _ _ _ Try.underlying82]
  simp only [Result.andThen]
  rw [Oper.upon_value]
  go_wp2
  go_ret
  exact ⟨rfl, rfl⟩

theorem MapIs.same {w w' : World} {b b2 : Nat} {α : Type} {enc : α → Value} {ok : α → Prop} {l : List (α × Value)} (h : MapIs w b enc ok l) (hk : w'.heap[b2]? = w.heap[b]?) : MapIs w' b2 enc ok l := by
  obtain ⟨es, clock, h1, h2⟩ := h
  exact ⟨es, clock, hk.trans h1, h2⟩

theorem cells_remap {σ : Stk} {mb mc : Nat} (hb : σ.b.length = 128) (hs : σ.s.length = 128) : (σ.cells mb).setIfInBounds 256 (.map (some mc)) = σ.cells mc := by
  unfold Stk.cells
  apply Array.toList_inj.1
  rw [Array.toList_setIfInBounds]
  simp only []
  rw [List.set_append_right _ _ (by simp [hb, hs])]
  simp [hb, hs]

theorem stk_copy (w : World) (p mb : Nat) (σ : Stk) (h : StkIs w p mb σ) :
    Calls Try.prog 23 #[.pointer (some ⟨p, 0, none⟩)] w fun e w' => ∃ q mc, e = .returned (.pointer (some ⟨q, 0, none⟩)) ∧ StkIs w' q mc σ ∧ w.heap.size ≤ q ∧ w.heap.size ≤ mc ∧ Below w.heap.size w w' := by
  have C := hide (stk_none w p mb h.cmap)
  have cm := h.cmap
  have H := hide h
  have hlen : (σ.cells mb).toList.length = 257 := by
    unfold Stk.cells
    simp [h.ok.b, h.ok.s]
  have hr : w.rangeAt p 0 (σ.cells mb).toList := fun j v hv => by rw [Nat.zero_add, h.has.cell]; simpa using hv
  have hi : (Try.prog.info? 84).map (·.size) = some (σ.cells mb).toList.length := by rw [hlen]; kernel_rfl
  have HI := hide (And.intro hlen (And.intro hr hi))
  clear h hlen hr hi
  go_enter Try.func23, Try.ntmps23
  go_wp2_with fail
  refine C.out.mono ?_
  rintro e w1 ⟨rfl, rfl⟩
  go_wp2_with fail
  refine wp_load_mid 84 _ rfl p 0 rfl _ _ HI.out.2.1 Try.underlying84 rfl HI.out.2.2 ?_
  obtain ⟨D, hD⟩ : ∃ D, D = (σ.cells mb).toList.toArray := ⟨_, rfl⟩
  rw [← hD]
  have hds : D.size = 257 := by rw [hD]; simpa using HI.out.1
  have hone : D.all (·.oneCell') = true := by
    rw [hD]
    unfold Stk.cells
    simp [Value.oneCell']
  have hst := run_storeCells_new (P := Try.prog) w 84 Try.zeroCells84 D (by rw [hds]; kernel_rfl) (by rw [hds]; kernel_rfl) hone
  have HD := hide (show D = σ.cells mb by rw [hD])
  obtain ⟨m, hm, hg⟩ := H.out.map
  obtain ⟨es, clock, hes, hrest⟩ := hm
  have hml : mb < w.heap.size := H.out.ltm
  have hes2 : (w.alloc (.cells D 84)).heap[mb]? = some (.map es clock) := (Below.heap_alloc w _ mb hml).trans hes
  have cm2 : (w.alloc (.cells D 84)).cell? ⟨p, 256, none⟩ = some (.map (some mb)) := by
    rw [World.cell?_alloc_lt _ _ _ (show (⟨p, 256, none⟩ : Addr).block < w.heap.size from H.out.ltp)]; exact cm
  have HES := hide (And.intro hes (And.intro hrest hg))
  have C2 := hide (maps_clone _ mb es clock hes2)
  clear hD hone hes hrest hg hes2 cm
  go_wp2_with fail
  refine C2.out.mono ?_
  rintro e w4 ⟨rfl, rfl⟩
  go_wp2_with fail
  go_ret
  obtain ⟨hes, hrest, hg⟩ := HES.out
  rw [HD.out, cells_remap H.out.ok.b H.out.ok.s]
  refine ⟨w.heap.size, w.heap.size + 1, rfl, ⟨(Has.new w _ _).alloc _, ⟨m, ⟨es, clock, ?_, hrest⟩, hg⟩, H.out.ok⟩, Nat.le_refl _, by omega, ((Below.refl _ w).alloc (Nat.le_refl _) _).alloc (by simp) _⟩
  have := (MapKept.heap_alloc (w.alloc (.cells (σ.cells (w.heap.size + 1)) 84)) (.map es clock)).1
  simpa using this

end Go.Proofs.Ytcddpmiandgkjaa
