/- The law TypesBack, walked: it returns true, whatever tables and bytes it is handed. -/
import Derived.Test.YtkflofjcjolehaaBig17
import Derived.Test.YtkflofjcjolehaaBig15
import Derived.Test.YtkflofjcjolehaaBTypesBack0
import Derived.Test.YtkflofjcjolehaaBTypesBack1
/-! Types: Back. -/
namespace Go.Proofs.Ytkflofjcjolehaa
open Go.RowKit Go.Proofs.YtkflofjcjolehaaW.PrintWords
set_option maxHeartbeats 40000000
set_option maxRecDepth 100000
set_option linter.unusedSimpArgs false
set_option linter.unusedVariables false

theorem back_walk (w : World) (A : Option Addr) (n c : Nat) (l : List Tp) (hl : l.length = n) (hc : n ≤ c) (hC : kT.C w A n l) (hrd : rdTps l) (B : Option Addr) (n2 c2 : Nat) (m : List Tp) (hl2 : m.length = n2) (hc2 : n2 ≤ c2) (hC2 : kT.C w B n2 m) (hrd2 : rdTps m) (s : ByteArray) (hs : s.size ≤ maxLen) :
    Calls Try.prog 5 #[.slice A n c, .slice B n2 c2, .string s] w fun e w' => e = .returned (.bool true) ∧ Below w.heap.size w w' := by
  have HLG := hide (Lg.law_large w A c l n hl hC hc hrd)
  have HLG2 := hide (fun W (hW : Below w.heap.size w W) => Lg.law_large W B c2 m n2 hl2 (Kd.C_below hC2 hW) hc2 hrd2)
  have HL := hide hl
  have HC := hide hC
  have HR := hide hrd
  have HK := hide hc
  have HL2 := hide hl2
  have HC2 := hide hC2
  have HR2 := hide hrd2
  have HK2 := hide hc2
  clear hl hC hrd hc hl2 hC2 hrd2 hc2 hs
  cases hlg : largeF l with
  | true =>
    rw [hlg] at HLG
    go_enter Try.func5, Try.ntmps5
    go_wp2_with fail
    refine (HLG.out).mono ?_
    rintro e w1 ⟨rfl, hb⟩
    have HB1 := hide (hb)
    clear hb
    go_wp2_with fail
    refine (law_alive _).mono ?_
    rintro e w2 ⟨rfl, hb⟩
    have HB2 := hide (bel_trans HB1.out hb)
    clear hb
    go_wp2_with fail
    go_ret
    exact ⟨rfl, HB2.out⟩
  | false =>
    rw [hlg] at HLG
    have HS := hide (small_of HR.out hlg)
    clear hlg
    cases hlg : largeF m with
    | true =>
      rw [hlg] at HLG2
      go_enter Try.func5, Try.ntmps5
      go_wp2_with fail
      refine (HLG.out).mono ?_
      rintro e w1 ⟨rfl, hb⟩
      have HB1 := hide (hb)
      clear hb
      go_wp2_with fail
      refine (HLG2.out _ HB1.out).mono ?_
      rintro e w2 ⟨rfl, hb⟩
      have HB2 := hide (bel_trans HB1.out hb)
      clear hb
      go_wp2_with fail
      refine (law_alive _).mono ?_
      rintro e w3 ⟨rfl, hb⟩
      have HB3 := hide (bel_trans HB2.out hb)
      clear hb
      go_wp2_with fail
      go_ret
      exact ⟨rfl, HB3.out⟩
    | false =>
      rw [hlg] at HLG2
      have HS2 := hide (small_of HR2.out hlg)
      clear hlg
      by_cases hz : s.size > 4096
      · have dz : decide ((s.size : Int) > 4096) = true := decide_eq_true (by omega)
        clear hz
        go_enter Try.func5, Try.ntmps5
        go_wp2_with fail
        refine (HLG.out).mono ?_
        rintro e w1 ⟨rfl, hb⟩
        have HB1 := hide (hb)
        clear hb
        go_wp2_with fail
        refine (HLG2.out _ HB1.out).mono ?_
        rintro e w2 ⟨rfl, hb⟩
        have HB2 := hide (bel_trans HB1.out hb)
        clear hb
        go_wp2_with fail
        refine (law_alive _).mono ?_
        rintro e w3 ⟨rfl, hb⟩
        have HB3 := hide (bel_trans HB2.out hb)
        clear hb
        go_wp2_with fail
        go_ret
        exact ⟨rfl, HB3.out⟩
      have dz : decide ((s.size : Int) > 4096) = false := decide_eq_false (by omega)
      clear hz
      have HE1 := hide (fun W (hW : Below w.heap.size w W) => ty_encode W A c l n HL.out (Kd.C_below HC.out hW) HK.out HS.out.ok)
      have HE2 := hide (fun W (hW : Below w.heap.size w W) => ty_encode W B c2 m n2 HL2.out (Kd.C_below HC2.out hW) HK2.out HS2.out.ok)
      have HSM := hide (fun W (hW : Below w.heap.size w W) => rs_same W A B c c2 l m n n2 HL.out HL2.out (Kd.C_below HC.out hW) (Kd.C_below HC2.out hW))
      have HD := hide (fun W => ty_decode W s)
      have ht := dec_two s
      have hen := @dec_enc s
      obtain ⟨ds, g, hd⟩ : ∃ ds g, decodeF s = (ds, g) := ⟨_, _, rfl⟩
      rw [hd] at HD ht hen
      simp only [] at HD ht hen
      have HEN := hide hen
      clear hen hd
      rcases (enc_two l).symm with hea | hea
      · rw [hea] at HE1
        clear hea
        obtain ⟨b, f, hf⟩ : ∃ b f, encodeF m = (b, f) := ⟨_, _, rfl⟩
        rw [hf] at HE2
        clear hf HSM
        go_enter Try.func5, Try.ntmps5
        go_wp2_with fail
        refine (HLG.out).mono ?_
        rintro e w1 ⟨rfl, hb⟩
        have HB1 := hide (hb)
        clear hb
        go_wp2_with fail
        refine (HLG2.out _ HB1.out).mono ?_
        rintro e w2 ⟨rfl, hb⟩
        have HB2 := hide (bel_trans HB1.out hb)
        clear hb
        go_wp2_with fail
        refine (HE1.out _ HB2.out).mono ?_
        rintro e w3 ⟨rfl, hb⟩
        have HB3 := hide (bel_trans HB2.out hb)
        clear hb
        go_wp2_with fail
        refine (HE2.out _ HB3.out).mono ?_
        rintro e w4 ⟨rfl, hb⟩
        have HB4 := hide (bel_trans HB3.out hb)
        clear hb
        rcases ht with rfl | ht
        · obtain ⟨he1, he2, he3⟩ := HEN.out rfl
          have HX1 := hide he1
          have HX2 := hide he2
          clear he1 he2 he3 HEN
          go_wp2_with fail
          refine (HD.out _).mono ?_
          rintro e w8 ⟨x8, rfl, hX, hb⟩
          have HB8 := hide (bel_trans HB4.out hb)
          obtain ⟨X, cx, rfl, hlx, hCx⟩ := Kd.R_reads hX
          obtain ⟨D, hD⟩ : ∃ D, ds.length = D := ⟨_, rfl⟩
          rw [hD] at hlx hCx ⊢
          have HE8 := hide (ty_encode w8 X cx ds D hD hCx hlx HX2.out)
          rw [HX1.out] at HE8
          clear hb hX hlx hCx hD
          go_wp2_with fail
          refine (HE8.out).mono ?_
          rintro e w9 ⟨rfl, hb⟩
          have HB9 := hide (bel_trans HB8.out hb)
          clear hb
          go_wp2_with fail
          refine (law_alive _).mono ?_
          rintro e w10 ⟨rfl, hb⟩
          have HB10 := hide (bel_trans HB9.out hb)
          clear hb
          go_wp2_with fail
          go_ret
          exact ⟨rfl, HB10.out⟩
        · obtain ⟨rfl, rfl⟩ : ds = [] ∧ g = 8 := by cases ht; exact ⟨rfl, rfl⟩
          clear ht HEN
          go_wp2_with fail
          refine (HD.out _).mono ?_
          rintro e w8 ⟨x8, rfl, hX, hb⟩
          have HB8 := hide (bel_trans HB4.out hb)
          obtain ⟨X, cx, rfl, hlx, hCx⟩ := Kd.R_reads hX
          rw [List.length_nil] at hlx hCx ⊢
          clear hb hX hlx hCx
          go_wp2_with fail
          refine (law_alive _).mono ?_
          rintro e w9 ⟨rfl, hb⟩
          have HB9 := hide (bel_trans HB8.out hb)
          clear hb
          go_wp2_with fail
          go_ret
          exact ⟨rfl, HB9.out⟩
      have HDA := hide (fun W => ty_decode W (encodeF l).1)
      rw [enc_dec HS.out.kd hea] at HDA
      have HAP := hide (fun z => enc_apart (z := z) HS.out.kd HS2.out.kd hea)
      obtain ⟨a, ha⟩ : ∃ a, (encodeF l).1 = a := ⟨_, rfl⟩
      rw [hea, ha] at HE1
      rw [ha] at HDA HAP
      rcases (enc_two m).symm with hem | hem
      · rw [hem] at HE2
        clear hem hea ha HAP HSM
        go_enter Try.func5, Try.ntmps5
        go_wp2_with fail
        refine (HLG.out).mono ?_
        rintro e w1 ⟨rfl, hb⟩
        have HB1 := hide (hb)
        clear hb
        go_wp2_with fail
        refine (HLG2.out _ HB1.out).mono ?_
        rintro e w2 ⟨rfl, hb⟩
        have HB2 := hide (bel_trans HB1.out hb)
        clear hb
        go_wp2_with fail
        refine (HE1.out _ HB2.out).mono ?_
        rintro e w3 ⟨rfl, hb⟩
        have HB3 := hide (bel_trans HB2.out hb)
        clear hb
        go_wp2_with fail
        refine (HE2.out _ HB3.out).mono ?_
        rintro e w4 ⟨rfl, hb⟩
        have HB4 := hide (bel_trans HB3.out hb)
        clear hb
        go_wp2_with fail
        refine (HDA.out _).mono ?_
        rintro e w5 ⟨x5, rfl, hX, hb⟩
        have HB5 := hide (bel_trans HB4.out hb)
        obtain ⟨X, cx, rfl, hlx, hCx⟩ := Kd.R_reads hX
        rw [HL.out] at hlx hCx ⊢
        have HS5 := hide (rs_same w5 X A cx c l l n n HL.out HL.out hCx (Kd.C_below HC.out HB5.out))
        rw [tysSame_eq.2 rfl] at HS5
        clear hb hX hlx hCx
        go_wp2_with fail
        refine (HS5.out).mono ?_
        rintro e w6 ⟨rfl, hb⟩
        have HB6 := hide (bel_trans HB5.out hb)
        clear hb
        rcases ht with rfl | ht
        · obtain ⟨he1, he2, he3⟩ := HEN.out rfl
          have HX1 := hide he1
          have HX2 := hide he2
          clear he1 he2 he3 HEN
          go_wp2_with fail
          refine (HD.out _).mono ?_
          rintro e w8 ⟨x8, rfl, hX, hb⟩
          have HB8 := hide (bel_trans HB6.out hb)
          obtain ⟨X, cx, rfl, hlx, hCx⟩ := Kd.R_reads hX
          obtain ⟨D, hD⟩ : ∃ D, ds.length = D := ⟨_, rfl⟩
          rw [hD] at hlx hCx ⊢
          have HE8 := hide (ty_encode w8 X cx ds D hD hCx hlx HX2.out)
          rw [HX1.out] at HE8
          clear hb hX hlx hCx hD
          go_wp2_with fail
          refine (HE8.out).mono ?_
          rintro e w9 ⟨rfl, hb⟩
          have HB9 := hide (bel_trans HB8.out hb)
          clear hb
          go_wp2_with fail
          refine (law_alive _).mono ?_
          rintro e w10 ⟨rfl, hb⟩
          have HB10 := hide (bel_trans HB9.out hb)
          clear hb
          go_wp2_with fail
          go_ret
          exact ⟨rfl, HB10.out⟩
        · obtain ⟨rfl, rfl⟩ : ds = [] ∧ g = 8 := by cases ht; exact ⟨rfl, rfl⟩
          clear ht HEN
          go_wp2_with fail
          refine (HD.out _).mono ?_
          rintro e w8 ⟨x8, rfl, hX, hb⟩
          have HB8 := hide (bel_trans HB6.out hb)
          obtain ⟨X, cx, rfl, hlx, hCx⟩ := Kd.R_reads hX
          rw [List.length_nil] at hlx hCx ⊢
          clear hb hX hlx hCx
          go_wp2_with fail
          refine (law_alive _).mono ?_
          rintro e w9 ⟨rfl, hb⟩
          have HB9 := hide (bel_trans HB8.out hb)
          clear hb
          go_wp2_with fail
          go_ret
          exact ⟨rfl, HB9.out⟩
      obtain ⟨b, hb⟩ : ∃ b, (encodeF m).1 = b := ⟨_, rfl⟩
      rw [hem, hb] at HE2
      rw [hb] at HAP
      have HLM : Hid (l = m → a = b) := hide (fun e => by rw [← ha, ← hb, e])
      clear hea ha hb
      by_cases hab : a = b
      · subst hab
        obtain ⟨hlm, _⟩ := HAP.out _ hem (ByteArray.append_empty).symm
        rw [tysSame_eq.2 hlm] at HSM
        clear hem hlm HAP HLM
        go_enter Try.func5, Try.ntmps5
        go_wp2_with fail
        refine (HLG.out).mono ?_
        rintro e w1 ⟨rfl, hb⟩
        have HB1 := hide (hb)
        clear hb
        go_wp2_with fail
        refine (HLG2.out _ HB1.out).mono ?_
        rintro e w2 ⟨rfl, hb⟩
        have HB2 := hide (bel_trans HB1.out hb)
        clear hb
        go_wp2_with fail
        refine (HE1.out _ HB2.out).mono ?_
        rintro e w3 ⟨rfl, hb⟩
        have HB3 := hide (bel_trans HB2.out hb)
        clear hb
        go_wp2_with fail
        refine (HE2.out _ HB3.out).mono ?_
        rintro e w4 ⟨rfl, hb⟩
        have HB4 := hide (bel_trans HB3.out hb)
        clear hb
        go_wp2_with fail
        refine (HDA.out _).mono ?_
        rintro e w5 ⟨x5, rfl, hX, hb⟩
        have HB5 := hide (bel_trans HB4.out hb)
        obtain ⟨X, cx, rfl, hlx, hCx⟩ := Kd.R_reads hX
        rw [HL.out] at hlx hCx ⊢
        have HS5 := hide (rs_same w5 X A cx c l l n n HL.out HL.out hCx (Kd.C_below HC.out HB5.out))
        rw [tysSame_eq.2 rfl] at HS5
        clear hb hX hlx hCx
        go_wp2_with fail
        refine (HS5.out).mono ?_
        rintro e w6 ⟨rfl, hb⟩
        have HB6 := hide (bel_trans HB5.out hb)
        clear hb
        go_wp2_with fail
        refine (HSM.out _ HB6.out).mono ?_
        rintro e w7 ⟨rfl, hb⟩
        have HB7 := hide (bel_trans HB6.out hb)
        clear hb
        rcases ht with rfl | ht
        · obtain ⟨he1, he2, he3⟩ := HEN.out rfl
          have HX1 := hide he1
          have HX2 := hide he2
          clear he1 he2 he3 HEN
          go_wp2_with fail
          refine (HD.out _).mono ?_
          rintro e w8 ⟨x8, rfl, hX, hb⟩
          have HB8 := hide (bel_trans HB7.out hb)
          obtain ⟨X, cx, rfl, hlx, hCx⟩ := Kd.R_reads hX
          obtain ⟨D, hD⟩ : ∃ D, ds.length = D := ⟨_, rfl⟩
          rw [hD] at hlx hCx ⊢
          have HE8 := hide (ty_encode w8 X cx ds D hD hCx hlx HX2.out)
          rw [HX1.out] at HE8
          clear hb hX hlx hCx hD
          go_wp2_with fail
          refine (HE8.out).mono ?_
          rintro e w9 ⟨rfl, hb⟩
          have HB9 := hide (bel_trans HB8.out hb)
          clear hb
          go_wp2_with fail
          refine (law_alive _).mono ?_
          rintro e w10 ⟨rfl, hb⟩
          have HB10 := hide (bel_trans HB9.out hb)
          clear hb
          go_wp2_with fail
          go_ret
          exact ⟨rfl, HB10.out⟩
        · obtain ⟨rfl, rfl⟩ : ds = [] ∧ g = 8 := by cases ht; exact ⟨rfl, rfl⟩
          clear ht HEN
          go_wp2_with fail
          refine (HD.out _).mono ?_
          rintro e w8 ⟨x8, rfl, hX, hb⟩
          have HB8 := hide (bel_trans HB7.out hb)
          obtain ⟨X, cx, rfl, hlx, hCx⟩ := Kd.R_reads hX
          rw [List.length_nil] at hlx hCx ⊢
          clear hb hX hlx hCx
          go_wp2_with fail
          refine (law_alive _).mono ?_
          rintro e w9 ⟨rfl, hb⟩
          have HB9 := hide (bel_trans HB8.out hb)
          clear hb
          go_wp2_with fail
          go_ret
          exact ⟨rfl, HB9.out⟩
      have hn : tysSame l m = false := by
        cases h : tysSame l m with
        | false => rfl
        | true => exact absurd (HLM.out (tysSame_eq.1 h)) hab
      rw [hn] at HSM
      have q1 : (a.toList == b.toList) = false := beq_eq_false_iff_ne.2 (fun e => hab (toList_same.1 e))
      have q2 : (a.toList != b.toList) = true := by simp only [bne, q1, Bool.not_false]
      by_cases hle : a.size ≤ b.size
      · have q3 : decide ((a.size : Int) ≤ (b.size : Int)) = true := decide_eq_true (by omega)
        have q4 : ((b.extract 0 a.size).toList == a.toList) = false := by
          refine beq_eq_false_iff_ne.2 (fun e => ?_)
          have e2 := toList_same.1 e
          have e3 : b = a ++ b.extract a.size b.size := by
            have : b.extract 0 a.size ++ b.extract a.size b.size = b := by rw [ByteArray.extract_append_extract, show min 0 a.size = 0 by omega, show max a.size b.size = b.size by omega, ByteArray.extract_zero_size]
            rw [e2] at this
            exact this.symm
          exact hab (HLM.out (HAP.out _ hem e3).1)
        have hle1 : (a.size : Int) ≤ (b.size : Int) := by omega
        have hle0 : (0 : Int) ≤ (a.size : Int) := by omega
        clear hem hab HAP HLM hn
        go_enter Try.func5, Try.ntmps5
        go_wp2_with fail
        refine (HLG.out).mono ?_
        rintro e w1 ⟨rfl, hb⟩
        have HB1 := hide (hb)
        clear hb
        go_wp2_with fail
        refine (HLG2.out _ HB1.out).mono ?_
        rintro e w2 ⟨rfl, hb⟩
        have HB2 := hide (bel_trans HB1.out hb)
        clear hb
        go_wp2_with fail
        refine (HE1.out _ HB2.out).mono ?_
        rintro e w3 ⟨rfl, hb⟩
        have HB3 := hide (bel_trans HB2.out hb)
        clear hb
        go_wp2_with fail
        refine (HE2.out _ HB3.out).mono ?_
        rintro e w4 ⟨rfl, hb⟩
        have HB4 := hide (bel_trans HB3.out hb)
        clear hb
        go_wp2_with fail
        refine (HDA.out _).mono ?_
        rintro e w5 ⟨x5, rfl, hX, hb⟩
        have HB5 := hide (bel_trans HB4.out hb)
        obtain ⟨X, cx, rfl, hlx, hCx⟩ := Kd.R_reads hX
        rw [HL.out] at hlx hCx ⊢
        have HS5 := hide (rs_same w5 X A cx c l l n n HL.out HL.out hCx (Kd.C_below HC.out HB5.out))
        rw [tysSame_eq.2 rfl] at HS5
        clear hb hX hlx hCx
        go_wp2_with fail
        refine (HS5.out).mono ?_
        rintro e w6 ⟨rfl, hb⟩
        have HB6 := hide (bel_trans HB5.out hb)
        clear hb
        go_wp2_with fail
        refine (HSM.out _ HB6.out).mono ?_
        rintro e w7 ⟨rfl, hb⟩
        have HB7 := hide (bel_trans HB6.out hb)
        clear hb
        rcases ht with rfl | ht
        · obtain ⟨he1, he2, he3⟩ := HEN.out rfl
          have HX1 := hide he1
          have HX2 := hide he2
          clear he1 he2 he3 HEN
          go_wp2_with fail
          refine (HD.out _).mono ?_
          rintro e w8 ⟨x8, rfl, hX, hb⟩
          have HB8 := hide (bel_trans HB7.out hb)
          obtain ⟨X, cx, rfl, hlx, hCx⟩ := Kd.R_reads hX
          obtain ⟨D, hD⟩ : ∃ D, ds.length = D := ⟨_, rfl⟩
          rw [hD] at hlx hCx ⊢
          have HE8 := hide (ty_encode w8 X cx ds D hD hCx hlx HX2.out)
          rw [HX1.out] at HE8
          clear hb hX hlx hCx hD
          go_wp2_with fail
          refine (HE8.out).mono ?_
          rintro e w9 ⟨rfl, hb⟩
          have HB9 := hide (bel_trans HB8.out hb)
          clear hb
          go_wp2_with fail
          refine (law_alive _).mono ?_
          rintro e w10 ⟨rfl, hb⟩
          have HB10 := hide (bel_trans HB9.out hb)
          clear hb
          go_wp2_with fail
          go_ret
          exact ⟨rfl, HB10.out⟩
        · obtain ⟨rfl, rfl⟩ : ds = [] ∧ g = 8 := by cases ht; exact ⟨rfl, rfl⟩
          clear ht HEN
          go_wp2_with fail
          refine (HD.out _).mono ?_
          rintro e w8 ⟨x8, rfl, hX, hb⟩
          have HB8 := hide (bel_trans HB7.out hb)
          obtain ⟨X, cx, rfl, hlx, hCx⟩ := Kd.R_reads hX
          rw [List.length_nil] at hlx hCx ⊢
          clear hb hX hlx hCx
          go_wp2_with fail
          refine (law_alive _).mono ?_
          rintro e w9 ⟨rfl, hb⟩
          have HB9 := hide (bel_trans HB8.out hb)
          clear hb
          go_wp2_with fail
          go_ret
          exact ⟨rfl, HB9.out⟩
      · have q3 : decide ((a.size : Int) ≤ (b.size : Int)) = false := decide_eq_false (by omega)
        have hgt : b.size < a.size := by omega
        have hgt1 : (b.size : Int) < (a.size : Int) := by omega
        have q5 : decide (a.size ≤ b.size) = false := decide_eq_false hle
        clear hem hab HAP HLM hn
        go_enter Try.func5, Try.ntmps5
        go_wp2_with fail
        refine (HLG.out).mono ?_
        rintro e w1 ⟨rfl, hb⟩
        have HB1 := hide (hb)
        clear hb
        go_wp2_with fail
        refine (HLG2.out _ HB1.out).mono ?_
        rintro e w2 ⟨rfl, hb⟩
        have HB2 := hide (bel_trans HB1.out hb)
        clear hb
        go_wp2_with fail
        refine (HE1.out _ HB2.out).mono ?_
        rintro e w3 ⟨rfl, hb⟩
        have HB3 := hide (bel_trans HB2.out hb)
        clear hb
        go_wp2_with fail
        refine (HE2.out _ HB3.out).mono ?_
        rintro e w4 ⟨rfl, hb⟩
        have HB4 := hide (bel_trans HB3.out hb)
        clear hb
        go_wp2_with fail
        refine (HDA.out _).mono ?_
        rintro e w5 ⟨x5, rfl, hX, hb⟩
        have HB5 := hide (bel_trans HB4.out hb)
        obtain ⟨X, cx, rfl, hlx, hCx⟩ := Kd.R_reads hX
        rw [HL.out] at hlx hCx ⊢
        have HS5 := hide (rs_same w5 X A cx c l l n n HL.out HL.out hCx (Kd.C_below HC.out HB5.out))
        rw [tysSame_eq.2 rfl] at HS5
        clear hb hX hlx hCx
        go_wp2_with fail
        refine (HS5.out).mono ?_
        rintro e w6 ⟨rfl, hb⟩
        have HB6 := hide (bel_trans HB5.out hb)
        clear hb
        go_wp2_with fail
        refine (HSM.out _ HB6.out).mono ?_
        rintro e w7 ⟨rfl, hb⟩
        have HB7 := hide (bel_trans HB6.out hb)
        clear hb
        rcases ht with rfl | ht
        · obtain ⟨he1, he2, he3⟩ := HEN.out rfl
          have HX1 := hide he1
          have HX2 := hide he2
          clear he1 he2 he3 HEN
          go_wp2_with fail
          refine (HD.out _).mono ?_
          rintro e w8 ⟨x8, rfl, hX, hb⟩
          have HB8 := hide (bel_trans HB7.out hb)
          obtain ⟨X, cx, rfl, hlx, hCx⟩ := Kd.R_reads hX
          obtain ⟨D, hD⟩ : ∃ D, ds.length = D := ⟨_, rfl⟩
          rw [hD] at hlx hCx ⊢
          have HE8 := hide (ty_encode w8 X cx ds D hD hCx hlx HX2.out)
          rw [HX1.out] at HE8
          clear hb hX hlx hCx hD
          go_wp2_with fail
          refine (HE8.out).mono ?_
          rintro e w9 ⟨rfl, hb⟩
          have HB9 := hide (bel_trans HB8.out hb)
          clear hb
          go_wp2_with fail
          refine (law_alive _).mono ?_
          rintro e w10 ⟨rfl, hb⟩
          have HB10 := hide (bel_trans HB9.out hb)
          clear hb
          go_wp2_with fail
          go_ret
          exact ⟨rfl, HB10.out⟩
        · obtain ⟨rfl, rfl⟩ : ds = [] ∧ g = 8 := by cases ht; exact ⟨rfl, rfl⟩
          clear ht HEN
          go_wp2_with fail
          refine (HD.out _).mono ?_
          rintro e w8 ⟨x8, rfl, hX, hb⟩
          have HB8 := hide (bel_trans HB7.out hb)
          obtain ⟨X, cx, rfl, hlx, hCx⟩ := Kd.R_reads hX
          rw [List.length_nil] at hlx hCx ⊢
          clear hb hX hlx hCx
          go_wp2_with fail
          refine (law_alive _).mono ?_
          rintro e w9 ⟨rfl, hb⟩
          have HB9 := hide (bel_trans HB8.out hb)
          clear hb
          go_wp2_with fail
          go_ret
          exact ⟨rfl, HB9.out⟩
end Go.Proofs.Ytkflofjcjolehaa
