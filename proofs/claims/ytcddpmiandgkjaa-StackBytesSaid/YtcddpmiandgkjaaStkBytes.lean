import Derived.Test.YtcddpmiandgkjaaStkBytesP
/-! The law StackBytes. -/
namespace Go.Proofs.Ytcddpmiandgkjaa
open Go.RowKit Go.Maps Go.Lib Go.Deep
set_option maxHeartbeats 2000000
set_option maxRecDepth 100000
set_option linter.unusedSimpArgs false
set_option linter.unusedVariables false

theorem bit_cases (mk : Int) (h0 : 0 ≤ mk) (h1 : mk < 256) (k : Nat) : (bits .and .u8 (mk / 2 ^ k) 1 = 0 ∧ decide (mk / 2 ^ k % 2 = 1) = false) ∨ (bits .and .u8 (mk / 2 ^ k) 1 = 1 ∧ decide (mk / 2 ^ k % 2 = 1) = true) := by
  have hp : (0 : Int) < 2 ^ k := Int.pow_pos (by decide)
  have hz0 : 0 ≤ mk / 2 ^ k := Int.ediv_nonneg h0 (by omega)
  have hz1 : mk / 2 ^ k ≤ mk := Int.ediv_le_self _ h0
  rw [and_one _ hz0 (by omega)]
  generalize mk / 2 ^ k = z at *
  rcases (show z % 2 = 0 ∨ z % 2 = 1 by omega) with h | h
  · exact .inl ⟨h, decide_eq_false (by omega)⟩
  · exact .inr ⟨h, decide_eq_true h⟩

theorem stack_bytes_law (w : World) (x : Int) (hx : (Lit.int .u64 x).wf = true) (sl : Int) (hsl : (Lit.int .u8 sl).wf = true) (mk : Int) (hmk : (Lit.int .u8 mk).wf = true) :
    Calls Try.prog 5 #[.int .u64 x, .int .u8 sl, .int .u8 mk] w fun e w' => e = .returned (.bool true) ∧ Below w.heap.size w w' := by
  have hx2 : 0 ≤ x ∧ x < 18446744073709551616 := by
    simp [Lit.wf, IntKind.min, IntKind.max, IntKind.bits, IntKind.signed] at hx; omega
  have hs2 : 0 ≤ sl ∧ sl < 256 := by
    simp [Lit.wf, IntKind.min, IntKind.max, IntKind.bits, IntKind.signed] at hsl; omega
  have hm2 : 0 ≤ mk ∧ mk < 256 := by
    simp [Lit.wf, IntKind.min, IntKind.max, IntKind.bits, IntKind.signed] at hmk; omega
  clear hx hsl hmk
  have C1 := ref_of x 8 hx2.1 hx2.2
  have hT0 : wordOf x 8 = strOfNums (wordNums x 8) := if_pos (by omega)
  rw [hT0] at C1
  have hTs : (strOfNums (wordNums x 8)).size = 8 := by rw [strOfNums_size_, wordNums_length]
  have htr : ∀ k, 0 ≤ (wordNums x 8).getD k 0 ∧ (wordNums x 8).getD k 0 < 256 := fun k => by
    rw [List.getD_eq_getElem?_getD]
    by_cases h : k < (wordNums x 8).length
    · rw [List.getElem?_eq_getElem h]; exact wordNums_range x 8 _ (List.getElem_mem h)
    · rw [List.getElem?_eq_none (by omega)]; decide
  have HTK := hide (fun k => str_at (wordNums x 8) (wordNums_range x 8) k)
  obtain ⟨T, hT⟩ : ∃ T, T = strOfNums (wordNums x 8) := ⟨_, rfl⟩
  rw [← hT] at C1 HTK hTs
  have HT := hide hT
  have HTR := hide htr
  have C1 := hide C1
  have HX := hide hx2
  have HM := hide (fun k => bit_cases mk hm2.1 hm2.2 k)
  have A1 := hide (fun w => stk_alive w)
  clear hT hT0 htr hx2
  go_enter Try.func5, Try.ntmps5
  go_wp2_with fail
  refine (stk_new _).mono ?_
  rintro e w1 ⟨p, mb, rfl, hs, hp, hmb, hb⟩
  have PP := hide (And.intro hp hmb)
  go_wp2_with fail
  refine (C1.out _).mono ?_
  rintro e w2 ⟨rfl, hb2⟩
  have T0 := hide (hs.below hb2)
  have B0 := hide (below_on hb hb2)
  clear hs hp hmb hb hb2
  go_wp2_with fail
  obtain ⟨a, hA⟩ : ∃ a, a = -8 * (1 + sl % 16) := ⟨_, rfl⟩
  rw [← hA]
  obtain ⟨f, hf⟩ : ∃ f : Nat, a + 128 = f := ⟨(a + 128).toNat, by omega⟩
  have hf8 : f % 8 = 0 := by omega
  have hfm : f + 8 ≤ 128 := by omega
  have ha0 : -128 ≤ a := by omega
  have ha1 : a ≤ -8 := by omega
  have HA := hide hA
  have HF := hide hf
  clear hA hf
  obtain ⟨bt, hbt⟩ : ∃ bt : Nat → Bool, bt = fun k => decide (mk / 2 ^ k % 2 = 1) := ⟨_, rfl⟩
  have HB := hide (fun k => show bt k = decide (mk / 2 ^ k % 2 = 1) from by rw [hbt])
  clear hbt
  have STEP := hide (byt_step f (wordNums x 8) bt hfm a HF.out)
  go_loopw [10, 11] (fun al i wr => ∃ (k : Nat), k ≤ 8 ∧ i = .int .i64 k ∧ al = .bool (allBt bt k) ∧ StkIs wr p mb (byt f (wordNums x 8) bt k) ∧ Below w.heap.size w wr) (fun _ i _ => 8 - (intOf i).toNat)
  case atStart => exact ⟨0, by omega, rfl, rfl, T0.out, B0.out⟩
  case round =>
    clear T0 B0
    obtain ⟨k, hk, rfl, rfl, hS, hB⟩ := hrel
    have H1 := hide hS
    have B2 := hide hB
    clear hS hB
    by_cases hlt : k < 8
    · have hki : (k : Int) < 8 := by omega
      rcases HM.out k with ⟨hb, hd⟩ | ⟨hb, hd⟩
      · have hbk : bt k = false := by rw [HB.out, hd]
        have HBK := hide hbk
        clear hbk hd
        go_wp2_with fail
        exact ⟨⟨k + 1, by omega, by simp, by unfold allBt; rw [HBK.out, Bool.and_false], by unfold byt; rw [if_neg (by rw [HBK.out]; simp)]; exact H1.out, B2.out⟩, by simp [intOf]; omega⟩
      · have hbk : bt k = true := by rw [HB.out, hd]
        have HBK := hide hbk
        have CS := fun W (h : StkIs W p mb (byt f (wordNums x 8) bt k)) => stk_store W p mb _ h (a + k) 1 (.num ((wordNums x 8).getD k 0)) ⟨(HTR.out k).1, by have := (HTR.out k).2; omega⟩
        rw [STEP.out k hlt hbk] at CS
        have hy := HTK.out k
        simp only [AV.enc] at CS
        generalize (wordNums x 8).getD k 0 = y at *
        have CS := hide CS
        clear hbk hd
        go_wp2_with fail
        refine (CS.out _ H1.out).mono ?_
        rintro e wt ⟨rfl, hs, ht⟩
        have H1 := hide hs
        have B2 := hide (B2.out.trans (ht.below B2.out.size (fun k hk => by rcases hk with rfl | rfl; exact PP.out.1; exact PP.out.2)))
        clear hs ht CS
        go_wp2_with fail
        exact ⟨⟨k + 1, by omega, by simp, by show Value.bool (allBt bt k) = Value.bool (allBt bt k && bt k); rw [HBK.out, Bool.and_true], H1.out, B2.out⟩, by simp [intOf]; omega⟩
    · have hk8 : k = 8 := by omega
      subst hk8
      have hba := byt_at f hfm (wordNums x 8) HTR.out bt 8 (Nat.le_refl _)
      obtain ⟨σ, hσ⟩ : ∃ σ, σ = byt f (wordNums x 8) bt 8 := ⟨_, rfl⟩
      rw [← hσ] at hba H1
      have L1 := fun W p mb (h : StkIs W p mb σ) => stk_load W p mb σ h a 8
      rw [byt_load hfm hba HX.out.1 HX.out.2 a HF.out] at L1
      have L2 := fun (i : Nat) W p mb (h : StkIs W p mb σ) => stk_load W p mb σ h (a + (i : Int)) 1
      have E1 := fun (i : Nat) W p mb (h : StkIs W p mb σ) => stk_set W p mb σ h (a + (i : Int))
      have Y1 := fun W p mb (h : StkIs W p mb σ) => stk_bytes W p mb σ h a 8
      rw [byt_bytes hfm hba a HF.out, ← HT.out] at Y1
      have S2 := fun W p mb (h : StkIs W p mb σ) => stk_store W p mb σ h a 8 (.fn 3) trivial
      rw [fn_store hfm hf8 a HF.out] at S2
      obtain ⟨τ, hτ⟩ : ∃ τ, τ = σ.spill f (.fn 3) := ⟨_, rfl⟩
      have L3 := fun W p mb (h : StkIs W p mb τ) => stk_load W p mb τ h a 8
      have L4 := fun (i : Nat) W p mb (h : StkIs W p mb τ) => stk_load W p mb τ h (a + (i : Int)) 1
      rw [show τ.load a 8 = (.fn 3, 0) by rw [hτ]; exact fn_load hba.ok.l hfm hf8 a HF.out] at L3
      rw [← hτ] at S2
      have Q2 := hide (fun (i : Nat) (hi : i < 8) => byt_one hfm hba a HF.out i hi)
      have Q3 := hide (fun (i : Nat) (hi : i < 8) => byt_set hfm hba a HF.out i hi)
      have Q4 := hide (fun (i : Nat) (hi : i < 8) => show τ.load (a + (i : Int)) 1 = (AV.nil, 221) by rw [hτ]; exact fn_one hba.ok.l hfm hf8 a HF.out i hi)
      have HAB := hide (fun h i hi => allBt_lt (bt := bt) (n := 8) h i hi)
      have IX := fun w => val_law_is w (.num x) ⟨1, x, 0, 0, 0, 0⟩
      rw [show decide ((AV.num x).plain = (⟨1, x, 0, 0, 0, 0⟩ : V22)) = true by simp [AV.plain]] at IX
      have IF := fun w => val_law_is w (.fn 3) ⟨7, 0, 3, 0, 0, 0⟩
      rw [show decide ((AV.fn 3).plain = (⟨7, 0, 3, 0, 0, 0⟩ : V22)) = true by decide] at IF
      have IY := fun w y => val_law_is w (.num y) ⟨1, y, 0, 0, 0, 0⟩
      have IY : ∀ (w : World) (y : Int), Calls Try.prog 16 #[AV.enc (.num y), V22.agg ⟨1, y, 0, 0, 0, 0⟩] w fun e w' => e = .returned (.bool true) ∧ Below w.heap.size w w' := fun w y => by
        have := val_law_is w (.num y) ⟨1, y, 0, 0, 0, 0⟩
        rw [show decide ((AV.num y).plain = (⟨1, y, 0, 0, 0, 0⟩ : V22)) = true by simp [AV.plain]] at this
        exact this
      have CN := fun w n => law_num w n
      simp only [AV.enc, V22.agg] at L1 L3 S2 IX IF IY CN
      have L2 := hide L2
      have L3 := hide L3
      have L4 := hide L4
      have E1 := hide E1
      have Y1 := hide Y1
      have S2 := hide S2
      have IX := hide IX
      have IF := hide IF
      have IY := hide IY
      have CN := hide CN
      clear hσ hτ hba STEP
      cases hall : allBt bt 8 with
      | false =>
        rw [hall] at L1 Y1
        simp only [Bool.false_eq_true, if_false, if_true, if_pos] at L1 Y1
        have L1 := hide L1
        have Y1 := hide Y1
        have HALL := hide hall
        clear hall
        go_wp2_with fail
        refine (L1.out _ _ _ H1.out).mono ?_
        rintro e wt ⟨rfl, hb⟩
        have H1 := hide (H1.out.below hb)
        have B2 := hide (below_on B2.out hb)
        clear hb
        go_wp2_with fail
        refine (stk_copy _ _ _ _ H1.out).mono ?_
        rintro e wt ⟨r, md, rfl, hs, hr, hmd, hb⟩
        have AQ := hide (show Apart4 p mb r md from by
          have h1 := H1.out.ltp
          have h2 := H1.out.ltm
          exact ⟨by omega, by omega, by omega, by omega⟩)
        have P3 := hide (And.intro (Nat.le_trans B2.out.size hr) (Nat.le_trans B2.out.size hmd))
        have H1 := hide (H1.out.below hb)
        have H3 := hide hs
        have B2 := hide (below_on B2.out hb)
        clear hb hs hr hmd
        go_wp2_with fail
        refine (S2.out _ _ _ H3.out).mono ?_
        rintro e wt ⟨rfl, hs, ht⟩
        have H3 := hide hs
        have H1 := hide (H1.out.aside ht AQ.out)
        have B2 := hide (B2.out.trans (ht.below B2.out.size (fun k hk => by rcases hk with rfl | rfl; exact P3.out.1; exact P3.out.2)))
        clear hs ht
        go_wp2_with fail
        go_loopw [15] (fun i wr => ∃ (j : Nat), j ≤ 8 ∧ i = .int .i64 j ∧ StkIs wr p mb σ ∧ StkIs wr r md τ ∧ Below w.heap.size w wr) (fun i _ => 8 - (intOf i).toNat)
        case atStart => exact ⟨0, by omega, rfl, H1.out, H3.out, B2.out⟩
        case round =>
          clear H1 H3 B2
          obtain ⟨j, hj, rfl, hS, hX, hB⟩ := hrel
          have H1 := hide hS
          have H3 := hide hX
          have B2 := hide hB
          clear hS hX hB
          by_cases hlt2 : j < 8
          · have hji : (j : Int) < 8 := by omega
            rcases HM.out j with ⟨hb, hd⟩ | ⟨hb, hd⟩
            · have HBJ := hide (show bt j = false by rw [HB.out, hd])
              clear hd
              have D2 := Q2.out j hlt2
              rw [HBJ.out, if_neg (by simp)] at D2
              have D3 := Q3.out j hlt2
              rw [HBJ.out] at D3
              have LL := fun W p mb (h : StkIs W p mb σ) => L2.out j W p mb h
              rw [D2] at LL
              have EE := fun W p mb (h : StkIs W p mb σ) => E1.out j W p mb h
              rw [D3] at EE
              have KK := fun W p mb (h : StkIs W p mb τ) => L4.out j W p mb h
              rw [Q4.out j hlt2] at KK
              have hy := HTK.out j
              generalize (wordNums x 8).getD j 0 = y at *
              simp only [AV.enc] at LL KK
              have IZ := fun w => IY.out w y
              have LL := hide LL
              have EE := hide EE
              have KK := hide KK
              have IZ := hide IZ
              clear D2 D3
              go_wp2_with fail
              refine (LL.out _ _ _ H1.out).mono ?_
              rintro e wt ⟨rfl, hb⟩
              have H1 := hide (H1.out.below hb)
              have H3 := hide (H3.out.below hb)
              have B2 := hide (below_on B2.out hb)
              clear hb
              go_wp2_with fail
              refine (KK.out _ _ _ H3.out).mono ?_
              rintro e wt ⟨rfl, hb⟩
              have H1 := hide (H1.out.below hb)
              have H3 := hide (H3.out.below hb)
              have B2 := hide (below_on B2.out hb)
              clear hb
              go_wp2_with fail
              refine (EE.out _ _ _ H1.out).mono ?_
              rintro e wt ⟨rfl, rfl⟩
              go_wp2_with fail
              exact ⟨⟨j + 1, by omega, by simp, H1.out, H3.out, B2.out⟩, by simp [intOf]; omega⟩
            · have HBJ := hide (show bt j = true by rw [HB.out, hd])
              clear hd
              have D2 := Q2.out j hlt2
              rw [HBJ.out, if_pos rfl] at D2
              have D3 := Q3.out j hlt2
              rw [HBJ.out] at D3
              have LL := fun W p mb (h : StkIs W p mb σ) => L2.out j W p mb h
              rw [D2] at LL
              have EE := fun W p mb (h : StkIs W p mb σ) => E1.out j W p mb h
              rw [D3] at EE
              have KK := fun W p mb (h : StkIs W p mb τ) => L4.out j W p mb h
              rw [Q4.out j hlt2] at KK
              have hy := HTK.out j
              generalize (wordNums x 8).getD j 0 = y at *
              simp only [AV.enc] at LL KK
              have IZ := fun w => IY.out w y
              have LL := hide LL
              have EE := hide EE
              have KK := hide KK
              have IZ := hide IZ
              clear D2 D3
              go_wp2_with fail
              refine (LL.out _ _ _ H1.out).mono ?_
              rintro e wt ⟨rfl, hb⟩
              have H1 := hide (H1.out.below hb)
              have H3 := hide (H3.out.below hb)
              have B2 := hide (below_on B2.out hb)
              clear hb
              go_wp2_with fail
              refine (KK.out _ _ _ H3.out).mono ?_
              rintro e wt ⟨rfl, hb⟩
              have H1 := hide (H1.out.below hb)
              have H3 := hide (H3.out.below hb)
              have B2 := hide (below_on B2.out hb)
              clear hb
              go_wp2_with fail
              refine (CN.out _ y).mono ?_
              rintro e wt ⟨rfl, hb⟩
              have H1 := hide (H1.out.below hb)
              have H3 := hide (H3.out.below hb)
              have B2 := hide (below_on B2.out hb)
              clear hb
              go_wp2_with fail
              refine (IZ.out _).mono ?_
              rintro e wt ⟨rfl, hb⟩
              have H1 := hide (H1.out.below hb)
              have H3 := hide (H3.out.below hb)
              have B2 := hide (below_on B2.out hb)
              clear hb
              go_wp2_with fail
              refine (EE.out _ _ _ H1.out).mono ?_
              rintro e wt ⟨rfl, rfl⟩
              go_wp2_with fail
              exact ⟨⟨j + 1, by omega, by simp, H1.out, H3.out, B2.out⟩, by simp [intOf]; omega⟩
          · have hj8 : j = 8 := by omega
            subst hj8
            go_wp2_with fail
            refine (L3.out _ _ _ H3.out).mono ?_
            rintro e wt ⟨rfl, hb⟩
            have H1 := hide (H1.out.below hb)
            have H3 := hide (H3.out.below hb)
            have B2 := hide (below_on B2.out hb)
            clear hb
            go_wp2_with fail
            refine (Y1.out _ _ _ H1.out).mono ?_
            rintro e wt ⟨rfl, hb⟩
            have H1 := hide (H1.out.below hb)
            have H3 := hide (H3.out.below hb)
            have B2 := hide (below_on B2.out hb)
            clear hb
            go_wp2_with fail
            refine (IF.out _).mono ?_
            rintro e wt ⟨rfl, hb⟩
            have H1 := hide (H1.out.below hb)
            have H3 := hide (H3.out.below hb)
            have B2 := hide (below_on B2.out hb)
            clear hb
            go_wp2_with fail
            refine (A1.out _).mono ?_
            rintro e wt ⟨rfl, hb⟩
            have H1 := hide (H1.out.below hb)
            have H3 := hide (H3.out.below hb)
            have B2 := hide (below_on B2.out hb)
            clear hb
            go_wp2_with fail
            go_ret
            exact ⟨rfl, B2.out⟩
      | true =>
        rw [hall] at L1 Y1
        simp only [Bool.false_eq_true, if_false, if_true, if_pos] at L1 Y1
        have L1 := hide L1
        have Y1 := hide Y1
        have HALL := hide hall
        clear hall
        go_wp2_with fail
        refine (L1.out _ _ _ H1.out).mono ?_
        rintro e wt ⟨rfl, hb⟩
        have H1 := hide (H1.out.below hb)
        have B2 := hide (below_on B2.out hb)
        clear hb
        go_wp2_with fail
        refine (CN.out _ x).mono ?_
        rintro e wt ⟨rfl, hb⟩
        have H1 := hide (H1.out.below hb)
        have B2 := hide (below_on B2.out hb)
        clear hb
        go_wp2_with fail
        refine (IX.out _).mono ?_
        rintro e wt ⟨rfl, hb⟩
        have H1 := hide (H1.out.below hb)
        have B2 := hide (below_on B2.out hb)
        clear hb
        go_wp2_with fail
        refine (stk_copy _ _ _ _ H1.out).mono ?_
        rintro e wt ⟨r, md, rfl, hs, hr, hmd, hb⟩
        have AQ := hide (show Apart4 p mb r md from by
          have h1 := H1.out.ltp
          have h2 := H1.out.ltm
          exact ⟨by omega, by omega, by omega, by omega⟩)
        have P3 := hide (And.intro (Nat.le_trans B2.out.size hr) (Nat.le_trans B2.out.size hmd))
        have H1 := hide (H1.out.below hb)
        have H3 := hide hs
        have B2 := hide (below_on B2.out hb)
        clear hb hs hr hmd
        go_wp2_with fail
        refine (S2.out _ _ _ H3.out).mono ?_
        rintro e wt ⟨rfl, hs, ht⟩
        have H3 := hide hs
        have H1 := hide (H1.out.aside ht AQ.out)
        have B2 := hide (B2.out.trans (ht.below B2.out.size (fun k hk => by rcases hk with rfl | rfl; exact P3.out.1; exact P3.out.2)))
        clear hs ht
        go_wp2_with fail
        go_loopw [15] (fun i wr => ∃ (j : Nat), j ≤ 8 ∧ i = .int .i64 j ∧ StkIs wr p mb σ ∧ StkIs wr r md τ ∧ Below w.heap.size w wr) (fun i _ => 8 - (intOf i).toNat)
        case atStart => exact ⟨0, by omega, rfl, H1.out, H3.out, B2.out⟩
        case round =>
          clear H1 H3 B2
          obtain ⟨j, hj, rfl, hS, hX, hB⟩ := hrel
          have H1 := hide hS
          have H3 := hide hX
          have B2 := hide hB
          clear hS hX hB
          by_cases hlt2 : j < 8
          · have hji : (j : Int) < 8 := by omega
            rcases HM.out j with ⟨hb, hd⟩ | ⟨hb, hd⟩
            · have HBJ := hide (show bt j = false by rw [HB.out, hd])
              clear hd
              have D2 := Q2.out j hlt2
              rw [HBJ.out, if_neg (by simp)] at D2
              have D3 := Q3.out j hlt2
              rw [HBJ.out] at D3
              have LL := fun W p mb (h : StkIs W p mb σ) => L2.out j W p mb h
              rw [D2] at LL
              have EE := fun W p mb (h : StkIs W p mb σ) => E1.out j W p mb h
              rw [D3] at EE
              have KK := fun W p mb (h : StkIs W p mb τ) => L4.out j W p mb h
              rw [Q4.out j hlt2] at KK
              have hy := HTK.out j
              generalize (wordNums x 8).getD j 0 = y at *
              simp only [AV.enc] at LL KK
              have IZ := fun w => IY.out w y
              have LL := hide LL
              have EE := hide EE
              have KK := hide KK
              have IZ := hide IZ
              clear D2 D3
              go_wp2_with fail
              refine (LL.out _ _ _ H1.out).mono ?_
              rintro e wt ⟨rfl, hb⟩
              have H1 := hide (H1.out.below hb)
              have H3 := hide (H3.out.below hb)
              have B2 := hide (below_on B2.out hb)
              clear hb
              go_wp2_with fail
              refine (KK.out _ _ _ H3.out).mono ?_
              rintro e wt ⟨rfl, hb⟩
              have H1 := hide (H1.out.below hb)
              have H3 := hide (H3.out.below hb)
              have B2 := hide (below_on B2.out hb)
              clear hb
              go_wp2_with fail
              refine (EE.out _ _ _ H1.out).mono ?_
              rintro e wt ⟨rfl, rfl⟩
              go_wp2_with fail
              exact ⟨⟨j + 1, by omega, by simp, H1.out, H3.out, B2.out⟩, by simp [intOf]; omega⟩
            · have HBJ := hide (show bt j = true by rw [HB.out, hd])
              clear hd
              have D2 := Q2.out j hlt2
              rw [HBJ.out, if_pos rfl] at D2
              have D3 := Q3.out j hlt2
              rw [HBJ.out] at D3
              have LL := fun W p mb (h : StkIs W p mb σ) => L2.out j W p mb h
              rw [D2] at LL
              have EE := fun W p mb (h : StkIs W p mb σ) => E1.out j W p mb h
              rw [D3] at EE
              have KK := fun W p mb (h : StkIs W p mb τ) => L4.out j W p mb h
              rw [Q4.out j hlt2] at KK
              have hy := HTK.out j
              generalize (wordNums x 8).getD j 0 = y at *
              simp only [AV.enc] at LL KK
              have IZ := fun w => IY.out w y
              have LL := hide LL
              have EE := hide EE
              have KK := hide KK
              have IZ := hide IZ
              clear D2 D3
              go_wp2_with fail
              refine (LL.out _ _ _ H1.out).mono ?_
              rintro e wt ⟨rfl, hb⟩
              have H1 := hide (H1.out.below hb)
              have H3 := hide (H3.out.below hb)
              have B2 := hide (below_on B2.out hb)
              clear hb
              go_wp2_with fail
              refine (KK.out _ _ _ H3.out).mono ?_
              rintro e wt ⟨rfl, hb⟩
              have H1 := hide (H1.out.below hb)
              have H3 := hide (H3.out.below hb)
              have B2 := hide (below_on B2.out hb)
              clear hb
              go_wp2_with fail
              refine (CN.out _ y).mono ?_
              rintro e wt ⟨rfl, hb⟩
              have H1 := hide (H1.out.below hb)
              have H3 := hide (H3.out.below hb)
              have B2 := hide (below_on B2.out hb)
              clear hb
              go_wp2_with fail
              refine (IZ.out _).mono ?_
              rintro e wt ⟨rfl, hb⟩
              have H1 := hide (H1.out.below hb)
              have H3 := hide (H3.out.below hb)
              have B2 := hide (below_on B2.out hb)
              clear hb
              go_wp2_with fail
              refine (EE.out _ _ _ H1.out).mono ?_
              rintro e wt ⟨rfl, rfl⟩
              go_wp2_with fail
              exact ⟨⟨j + 1, by omega, by simp, H1.out, H3.out, B2.out⟩, by simp [intOf]; omega⟩
          · have hj8 : j = 8 := by omega
            subst hj8
            go_wp2_with fail
            refine (L3.out _ _ _ H3.out).mono ?_
            rintro e wt ⟨rfl, hb⟩
            have H1 := hide (H1.out.below hb)
            have H3 := hide (H3.out.below hb)
            have B2 := hide (below_on B2.out hb)
            clear hb
            go_wp2_with fail
            refine (Y1.out _ _ _ H1.out).mono ?_
            rintro e wt ⟨rfl, hb⟩
            have H1 := hide (H1.out.below hb)
            have H3 := hide (H3.out.below hb)
            have B2 := hide (below_on B2.out hb)
            clear hb
            go_wp2_with fail
            refine (IF.out _).mono ?_
            rintro e wt ⟨rfl, hb⟩
            have H1 := hide (H1.out.below hb)
            have H3 := hide (H3.out.below hb)
            have B2 := hide (below_on B2.out hb)
            clear hb
            go_wp2_with fail
            refine (A1.out _).mono ?_
            rintro e wt ⟨rfl, hb⟩
            have H1 := hide (H1.out.below hb)
            have H3 := hide (H3.out.below hb)
            have B2 := hide (below_on B2.out hb)
            clear hb
            go_wp2_with fail
            go_ret
            exact ⟨rfl, B2.out⟩

end Go.Proofs.Ytcddpmiandgkjaa
