/- The law TypesBytes, walked: it returns true, whatever tables and bytes it is handed. -/
import Derived.Test.YtkflofjcjolehaaBig17
import Derived.Test.YtkflofjcjolehaaBig15
import Derived.Test.YtkflofjcjolehaaBTypesBytes0
import Derived.Test.YtkflofjcjolehaaBTypesBytes1
/-! Types: Bytes. -/
namespace Go.Proofs.Ytkflofjcjolehaa
open Go.RowKit Go.Proofs.YtkflofjcjolehaaW.PrintWords
set_option maxHeartbeats 40000000
set_option maxRecDepth 100000
set_option linter.unusedSimpArgs false
set_option linter.unusedVariables false

theorem bytes_walk (w : World) (A : Option Addr) (n c : Nat) (l : List Tp) (hl : l.length = n) (hc : n ≤ c) (hC : kT.C w A n l) (hrd : rdTps l) (B : Option Addr) (n2 c2 : Nat) (m : List Tp) (hl2 : m.length = n2) (hc2 : n2 ≤ c2) (hC2 : kT.C w B n2 m) (hrd2 : rdTps m) (s : ByteArray) (hs : s.size ≤ maxLen) :
    Calls Try.prog 3 #[.slice A n c, .slice B n2 c2, .string s] w fun e w' => e = .returned (.bool true) ∧ Below w.heap.size w w' := by
  have HLG := hide (Lg.law_large w A c l n hl hC hc hrd)
  have HLG2 := hide (fun W (hW : Below w.heap.size w W) => Lg.law_large W B c2 m n2 hl2 (Kd.C_below hC2 hW) hc2 hrd2)
  have HL := hide hl
  have HC := hide hC
  have HR := hide hrd
  have HK := hide hc
  have HL2 := hide hl2
  have HC2 := hide hC2
  have HR2 := hide hrd2
  have HK2 := hide hc2
  clear hl hC hrd hc hl2 hC2 hrd2 hc2 hs
  cases hlg : largeF l with
  | true =>
    rw [hlg] at HLG
    go_enter Try.func3, Try.ntmps3
    go_wp2_with fail
    refine (HLG.out).mono ?_
    rintro e w1 ⟨rfl, hb⟩
    have HB1 := hide (hb)
    clear hb
    go_wp2_with fail
    refine (law_alive _).mono ?_
    rintro e w2 ⟨rfl, hb⟩
    have HB2 := hide (bel_trans HB1.out hb)
    clear hb
    go_wp2_with fail
    go_ret
    exact ⟨rfl, HB2.out⟩
  | false =>
    rw [hlg] at HLG
    have HS := hide (small_of HR.out hlg)
    clear hlg
    cases hlg : largeF m with
    | true =>
      rw [hlg] at HLG2
      go_enter Try.func3, Try.ntmps3
      go_wp2_with fail
      refine (HLG.out).mono ?_
      rintro e w1 ⟨rfl, hb⟩
      have HB1 := hide (hb)
      clear hb
      go_wp2_with fail
      refine (HLG2.out _ HB1.out).mono ?_
      rintro e w2 ⟨rfl, hb⟩
      have HB2 := hide (bel_trans HB1.out hb)
      clear hb
      go_wp2_with fail
      refine (law_alive _).mono ?_
      rintro e w3 ⟨rfl, hb⟩
      have HB3 := hide (bel_trans HB2.out hb)
      clear hb
      go_wp2_with fail
      go_ret
      exact ⟨rfl, HB3.out⟩
    | false =>
      rw [hlg] at HLG2
      have HS2 := hide (small_of HR2.out hlg)
      clear hlg
      by_cases hz : s.size > 4096
      · have dz : decide ((s.size : Int) > 4096) = true := decide_eq_true (by omega)
        clear hz
        go_enter Try.func3, Try.ntmps3
        go_wp2_with fail
        refine (HLG.out).mono ?_
        rintro e w1 ⟨rfl, hb⟩
        have HB1 := hide (hb)
        clear hb
        go_wp2_with fail
        refine (HLG2.out _ HB1.out).mono ?_
        rintro e w2 ⟨rfl, hb⟩
        have HB2 := hide (bel_trans HB1.out hb)
        clear hb
        go_wp2_with fail
        refine (law_alive _).mono ?_
        rintro e w3 ⟨rfl, hb⟩
        have HB3 := hide (bel_trans HB2.out hb)
        clear hb
        go_wp2_with fail
        go_ret
        exact ⟨rfl, HB3.out⟩
      have dz : decide ((s.size : Int) > 4096) = false := decide_eq_false (by omega)
      clear hz
      have HE1 := hide (fun W (hW : Below w.heap.size w W) => ty_encode W A c l n HL.out (Kd.C_below HC.out hW) HK.out HS.out.ok)
      have HE2 := hide (fun W (hW : Below w.heap.size w W) => rd_encode W A c l n HL.out (Kd.C_below HC.out hW) HS.out.ok)
      have HS1 := hide (fun W (hW : Below w.heap.size w W) => ty_same W A B c c2 l m n n2 HL.out HL2.out (Kd.C_below HC.out hW) (Kd.C_below HC2.out hW))
      have HSM := hide (fun W (hW : Below w.heap.size w W) => rs_same W A B c c2 l m n n2 HL.out HL2.out (Kd.C_below HC.out hW) (Kd.C_below HC2.out hW))
      have HD := hide (fun W => ty_decode W s)
      have HD2 := hide (fun W => rd_decode W s)
      obtain ⟨a, e0, hd0⟩ : ∃ a e0, encodeF l = (a, e0) := ⟨_, _, rfl⟩
      rw [hd0] at HE1 HE2
      obtain ⟨ds, g, hd⟩ : ∃ ds g, decodeF s = (ds, g) := ⟨_, _, rfl⟩
      rw [hd] at HD HD2
      obtain ⟨r, hr⟩ : ∃ r, tysSame l m = r := ⟨_, rfl⟩
      rw [hr] at HS1 HSM
      clear hd hd0 hr
      obtain ⟨D, hD⟩ : ∃ D, ds.length = D := ⟨_, rfl⟩
      have HDL := hide hD
      clear hD
      go_enter Try.func3, Try.ntmps3
      go_wp2_with fail
      refine (HLG.out).mono ?_
      rintro e w1 ⟨rfl, hb⟩
      have HB1 := hide (hb)
      clear hb
      go_wp2_with fail
      refine (HLG2.out _ HB1.out).mono ?_
      rintro e w2 ⟨rfl, hb⟩
      have HB2 := hide (bel_trans HB1.out hb)
      clear hb
      go_wp2_with fail
      refine (HE1.out _ HB2.out).mono ?_
      rintro e w3 ⟨rfl, hb⟩
      have HB3 := hide (bel_trans HB2.out hb)
      clear hb
      go_wp2_with fail
      refine (HE2.out _ HB3.out).mono ?_
      rintro e w4 ⟨rfl, hb⟩
      have HB4 := hide (bel_trans HB3.out hb)
      clear hb
      go_wp2_with fail
      refine (HD.out _).mono ?_
      rintro e w5 ⟨x5, rfl, hX, hb⟩
      have HB5 := hide (bel_trans HB4.out hb)
      obtain ⟨X, cx, rfl, hlx, hCx⟩ := Kd.R_reads hX
      rw [HDL.out] at hCx ⊢
      have HC5 := hide hCx
      clear hb hX hlx hCx
      go_wp2_with fail
      refine (HD2.out _).mono ?_
      rintro e w6 ⟨x6, rfl, hX, hb⟩
      have HB6 := hide (bel_trans HB5.out hb)
      obtain ⟨Y, cy, rfl, hly, hCy⟩ := Kd.R_reads hX
      rw [HDL.out] at hCy ⊢
      have HQ := hide (rs_same w6 X Y cx cy ds ds D D HDL.out HDL.out (Kd.C_below HC5.out hb) hCy)
      rw [tysSame_eq.2 rfl] at HQ
      clear hb hX hly hCy
      go_wp2_with fail
      refine (HQ.out).mono ?_
      rintro e w7 ⟨rfl, hb⟩
      have HB7 := hide (bel_trans HB6.out hb)
      clear hb
      go_wp2_with fail
      refine (HS1.out _ HB7.out).mono ?_
      rintro e w8 ⟨rfl, hb⟩
      have HB8 := hide (bel_trans HB7.out hb)
      clear hb
      go_wp2_with fail
      refine (HSM.out _ HB8.out).mono ?_
      rintro e w9 ⟨rfl, hb⟩
      have HB9 := hide (bel_trans HB8.out hb)
      clear hb
      cases r with
      | true =>
        go_wp2_with fail
        refine (law_alive _).mono ?_
        rintro e w10 ⟨rfl, hb⟩
        have HB10 := hide (bel_trans HB9.out hb)
        clear hb
        go_wp2_with fail
        go_ret
        exact ⟨rfl, HB10.out⟩
      | false =>
        go_wp2_with fail
        refine (law_alive _).mono ?_
        rintro e w10 ⟨rfl, hb⟩
        have HB10 := hide (bel_trans HB9.out hb)
        clear hb
        go_wp2_with fail
        go_ret
        exact ⟨rfl, HB10.out⟩
end Go.Proofs.Ytkflofjcjolehaa
