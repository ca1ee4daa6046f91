/- The law TypesSound, walked: it returns true, whatever table it is handed. hmay: what wardenref09.May answers (XTyMay). -/
import Derived.Test.YtkflofjcjolehaaBig17
import Derived.Test.YtkflofjcjolehaaBig15
import Derived.Test.YtkflofjcjolehaaBTypesSound0
import Derived.Test.YtkflofjcjolehaaBTypesSound1
/-! Types: Sound. -/
namespace Go.Proofs.Ytkflofjcjolehaa
open Go.RowKit Go.Proofs.YtkflofjcjolehaaW.PrintWords
set_option maxHeartbeats 40000000
set_option maxRecDepth 100000
set_option linter.unusedSimpArgs false
set_option linter.unusedVariables false


theorem sound_walk (hmay : ∀ (w : World) (s : ByteArray), s.size ≤ 1000000 → Calls Try.prog 23 #[.string s] w fun e w' => e = .returned (.bool (nameMay s)) ∧ Below w.heap.size w w')
    (w : World) (A : Option Addr) (n c : Nat) (l : List Tp) (hl : l.length = n) (hc : n ≤ c) (hC : kT.C w A n l) (hrd : rdTps l) :
    Calls Try.prog 9 #[.slice A n c] w fun e w' => e = .returned (.bool true) ∧ Below w.heap.size w w' := by
  have HMAY := hide hmay
  have HLG := hide (Lg.law_large w A c l n hl hC hc hrd)
  have HL := hide hl
  have HC := hide hC
  have HR := hide hrd
  have HK := hide hc
  clear hmay hl hC hrd hc
  cases hlg : largeF l with
  | true =>
    rw [hlg] at HLG
    go_enter Try.func9, Try.ntmps9
    go_wp2_with fail
    refine HLG.out.mono ?_
    rintro e w1 ⟨rfl, hB1⟩
    have HB1 := hide hB1
    clear hB1
    go_wp2_with fail
    refine (law_alive _).mono ?_
    rintro e w2 ⟨rfl, hB2⟩
    go_wp2_with fail
    go_ret
    exact ⟨rfl, bel_trans HB1.out hB2⟩
  | false =>
    rw [hlg] at HLG
    have HS := hide (small_of HR.out hlg)
    have hn40 : n ≤ 40 := by rw [← HL.out]; exact HS.out.len
    clear hlg
    have HCK := hide (fun W (hW : Below w.heap.size w W) => ty_check W A c l n HL.out (Kd.C_below HC.out hW) HK.out HS.out.ok)
    obtain ⟨r1, hr1⟩ : ∃ r, (checkF l).1 = r := ⟨_, rfl⟩
    obtain ⟨r2, hr2⟩ : ∃ r, (checkF l).2.1 = r := ⟨_, rfl⟩
    obtain ⟨r3, hr3⟩ : ∃ r, (checkF l).2.2 = r := ⟨_, rfl⟩
    rw [hr1, hr2, hr3] at HCK
    by_cases hz : r3 = 0
    · subst hz
      have HOK := hide (checkF_ok hr3)
      have HOF := hide (fun W (hW : Below w.heap.size w W) nm => ty_of W A c l n HL.out (Kd.C_below HC.out hW) nm)
      clear hr1 hr2 hr3
      go_enter Try.func9, Try.ntmps9
      go_wp2_with fail
      refine HLG.out.mono ?_
      rintro e w1 ⟨rfl, hB1⟩
      have HB1 := hide hB1
      clear hB1 HLG
      go_wp2_with fail
      refine (HCK.out _ HB1.out).mono ?_
      rintro e w2 ⟨rfl, hB2⟩
      have HB2 := hide (bel_trans HB1.out hB2)
      clear hB2 HCK HB1
      go_wp2_with fail
      go_loopw [6] (fun x wr => ∃ i : Nat, i ≤ n ∧ x = .int .i64 i ∧ Below w.heap.size w wr) (fun x _ => n - (intOf x).toNat)
      case atStart => exact ⟨0, Nat.zero_le _, rfl, HB2.out⟩
      case round =>
        clear HB2
        obtain ⟨i, hi, rfl, hB⟩ := hrel
        have HB := hide hB
        clear hB
        by_cases hin : i < n
        · have hi1 : (i : Int) < n := by omega
          have hi0 : (0 : Int) ≤ i := by omega
          have v3 : IntKind.i64.wrap ((i : Int) + 1) = (i : Int) + 1 := by rw [w64]; unfold wrap64; omega
          obtain ⟨t, ht⟩ : ∃ t, l[i]? = some t := ⟨_, List.getElem?_eq_getElem (by rw [HL.out]; exact hin)⟩
          obtain ⟨hT, hBH⟩ := HOK.out i t ht
          have HT := hide hT
          have HBH := hide hBH
          have HTM := hide ht
          clear hT ht hBH
          have hn32 : n ≤ 32 := by
            obtain ⟨u, hu⟩ : ∃ u, l[n - 1]? = some u := ⟨_, List.getElem?_eq_getElem (by rw [HL.out]; omega)⟩
            have := (HOK.out _ _ hu).1.num
            omega
          have HN32 := hide hn32
          obtain ⟨cb, off, A2, c2, rfl, e0, e1, e2, hl2, hF⟩ := tp_at HC.out HB.out HTM.out
          have HF := hide hF
          have HL2 := hide hl2
          clear hF hl2 hn32
          obtain ⟨g, hg⟩ : ∃ g, wr.heap.size = g := ⟨_, rfl⟩
          have HG0 : Hid (Has (wr.alloc (.cells #[.string t.nm, .int .i64 t.sz, .slice A2 t.fs.length c2] 44)) g 44 #[.string t.nm, .int .i64 t.sz, .slice A2 t.fs.length c2]) := hide (by rw [← hg]; exact Has.new _ _ _)
          have HG1 := hide (bel_trans HB.out (below_box wr (.cells #[.string t.nm, .int .i64 t.sz, .slice A2 t.fs.length c2] 44)))
          obtain ⟨N, hN⟩ : ∃ N, t.fs.length = N := ⟨_, rfl⟩
          rw [hN] at HG0 HG1 HF HL2 e2
          have HN := hide hN
          have HOFE := hide (HOF.out _ HG1.out t.nm)
          rw [snd_of HT.out HTM.out, show max (i : Int) 0 = i by omega, decide_eq_true hi0] at HOFE
          have HHN := hide hin
          clear hN hin hi
          go_wp2_with fail
          refine HOFE.out.mono ?_
          rintro e w3 ⟨rfl, hB3⟩
          have HG := hide (HG0.out.below hB3 HG0.out.lt)
          have HB3 := hide (bel_trans HG1.out hB3)
          clear hB3 HG0 HG1 HOFE e0 e1 e2
          have g0 := HG.out.cell 0
          have g1 := HG.out.cell 1
          have g2 := HG.out.cell 2
          simp at g0 g1 g2
          have HM1 : Hid (∀ W, Calls Try.prog 23 #[.string t.nm] W fun e w' => e = .returned (.bool true) ∧ Below W.heap.size W w') := hide (fun W => by have := HMAY.out W t.nm (by have := HS.out.nm t (List.mem_of_getElem? HTM.out); omega); rwa [HT.out.name] at this)
          have HCV : Hid (∀ W, Below w.heap.size w W → Calls Try.prog 24 #[.agg #[.string t.nm, .int .i64 t.sz, .slice A2 N c2]] W fun e w' => e = .returned (.bool true) ∧ Below W.heap.size W w') := hide (fun W hW => ty_covers W t.nm t.sz A2 c2 t.fs N HN.out (Kd.C_below HF.out hW) l i HT.out)
          have dn : decide ((n : Int) > 32) = false := decide_eq_false (by have := HN32.out; omega)
          have dN : decide ((N : Int) > 8) = false := decide_eq_false (by have := HT.out.few; have := HN.out; omega)
          go_wp2_with fail
          refine (HM1.out _).mono ?_
          rintro e w4 ⟨rfl, hb⟩
          have HB4 := hide (bel_trans HB3.out hb)
          have HG4 := hide (HG.out.below hb HG.out.lt)
          have g0 := HG4.out.cell 0
          have g1 := HG4.out.cell 1
          have g2 := HG4.out.cell 2
          simp at g0 g1 g2
          clear hb HM1 HG HB3
          go_wp2_with fail
          refine (HCV.out _ HB4.out).mono ?_
          rintro e w5 ⟨rfl, hb⟩
          have HB5 := hide (bel_trans HB4.out hb)
          have HG5 := hide (HG4.out.below hb HG4.out.lt)
          have g0 := HG5.out.cell 0
          have g1 := HG5.out.cell 1
          have g2 := HG5.out.cell 2
          simp at g0 g1 g2
          clear hb HCV HG4 HB4 dn dN
          go_wp2_with fail
          have X : SndIn w l cb off n c i t A2 N c2 := ⟨HL.out, HC.out, HN32.out, HT.out, HBH.out, HTM.out, HN.out, HF.out, fun f hf => by have := HS.out.fn t (List.mem_of_getElem? HTM.out) f hf; omega, HMAY.out⟩
          refine snd_loop _ _ _ _ _ _ _ _ _ _ _ _ _ _ _ _ _ _ _ _ _ _ _ _ _ _ _ _ _ _ _ _ _ _ _ _ _ _ _ _ _ _ _ _ _ _ _ _ _ _ _ _ _ _ _ _ _ _ _ _ _ _ _ _ _ _ _ _ _ _ _ _ _ _ _ _ _ _ _ _ _ _ _ _ _ _ _ _ _ _ _ _ _ _ _ _ _ _ _ _ _ _ _ _ _ _ _ _ _ _ _ _ _ _ _ _ _ _ _ _ _ _ _ _ _ _ _ _ _ _ _ _ _ _ _ _ _ _ _ _ _ _ _ _ _ _ _ _ _ _ _ _ _ _ _ _ _ _ _ _ _ _ _ _ _ _ _ _ _ _ _ _ _ _ _ _ _ _ _ _ _ _ _ _ _ _ _ _ _ _ _ _ _ _ _ _ _ _ _ _ _ _ _ _ _ _ _ _ _ _ _ _ _ _ _ _ _ _ _ _ _ _ _ _ _ _ _ _ _ _ _ _ _ _ _ _ _ _ _ _ _ _ _ _ _ _ _ _ _ _ _ _ _ _ _ _ _ _ _ _ _ _ w cb off n c l i t A2 N c2 g _ X HG5.out HB5.out _ ?_
          intro s2 s11 s12 s13 s14 s79 s80 s81 s82 s83 s84 s85 s86 s87 s88 s89 s90 s91 s92 s93 s94 s95 s96 s97 s98 s99 s100 s101 s102 s103 s104 s105 s106 s107 s108 s109 s110 s111 s112 s113 s114 s115 s116 s117 s118 s119 s120 s121 s122 s123 s124 s125 s126 s127 s128 s129 s130 s131 s132 s133 s134 s135 s136 s137 s138 s139 s140 s141 s142 s143 s144 s145 s146 s147 s148 s149 s150 s151 s152 s153 s154 s155 s156 s157 s158 s159 s160 s161 s162 s163 s164 s165 s166 s167 s168 s169 s170 s171 s172 s173 s174 s175 s176 s177 s178 s179 s180 s181 s182 s183 s184 s185 s186 s187 s188 s189 s190 s191 s192 s193 s194 s195 s196 s197 s198 s199 s200 s201 s202 s203 s204 s205 s206 s207 s208 s209 s210 s211 s212 s213 s214 s215 s216 s217 s218 s219 s220 s221 s222 s223 s224 s225 s226 s227 s228 wr5 hH hB
          clear HG5 HB5 g0 g1 g2 X HMAY HBH
          have HH := hide hH
          have HB := hide hB
          clear hB
          have g0 := hH.cell 0
          have g1 := hH.cell 1
          have g2 := hH.cell 2
          simp at g0 g1 g2
          clear hH
          have v3 : IntKind.i64.wrap ((i : Int) + 1) = (i : Int) + 1 := by rw [w64]; unfold wrap64; have := HN32.out; have := HHN.out; omega
          have HM := hide (snd_mix HT.out)
          obtain ⟨x2, hx2⟩ : ∃ x, hasK t.fs [2] = x := ⟨_, rfl⟩
          obtain ⟨x7, hx7⟩ : ∃ x, hasK t.fs [7] = x := ⟨_, rfl⟩
          obtain ⟨x3, hx3⟩ : ∃ x, hasK t.fs [3] = x := ⟨_, rfl⟩
          obtain ⟨ob, hob⟩ : ∃ x, objK t.fs = x := ⟨_, rfl⟩
          obtain ⟨i2, hi2⟩ : ∃ x, max (kdIdx t.fs 2) 0 = x := ⟨_, rfl⟩
          obtain ⟨i7, hi7⟩ : ∃ x, max (kdIdx t.fs 7) 0 = x := ⟨_, rfl⟩
          obtain ⟨i3, hi3⟩ : ∃ x, max (kdIdx t.fs 3) 0 = x := ⟨_, rfl⟩
          have P2 := hide (fun W (hW : Below w.heap.size w W) => ty_has_kind W t.nm t.sz A2 c2 t.fs N HN.out (Kd.C_below HF.out hW) 2)
          have P7 := hide (fun W (hW : Below w.heap.size w W) => ty_has_kind W t.nm t.sz A2 c2 t.fs N HN.out (Kd.C_below HF.out hW) 7)
          have P3 := hide (fun W (hW : Below w.heap.size w W) => ty_has_kind W t.nm t.sz A2 c2 t.fs N HN.out (Kd.C_below HF.out hW) 3)
          have PO := hide (fun W (hW : Below w.heap.size w W) => ty_object W t.nm t.sz A2 c2 t.fs N HN.out (Kd.C_below HF.out hW))
          rw [hx2, hx7, hx3, hob] at HM
          rw [snd_kd, hx2, hi2] at P2
          rw [snd_kd, hx7, hi7] at P7
          rw [snd_kd, hx3, hi3] at P3
          rw [hob] at PO
          clear hx2 hx7 hx3 hob hi2 hi7 hi3
          go_wp2_with fail
          refine (P2.out _ HB.out).mono ?_
          rintro e w6 ⟨rfl, hb⟩
          have HB6 := hide (bel_trans HB.out hb)
          have HH6 := hide (HH.out.below hb HH.out.lt)
          clear hb P2 g0 g1 g2
          have g0 := HH6.out.cell 0
          have g1 := HH6.out.cell 1
          have g2 := HH6.out.cell 2
          simp at g0 g1 g2
          clear HB HH
          go_wp2_with fail
          refine (P7.out _ HB6.out).mono ?_
          rintro e w7 ⟨rfl, hb⟩
          have HB7 := hide (bel_trans HB6.out hb)
          have HH7 := hide (HH6.out.below hb HH6.out.lt)
          clear hb P7 g0 g1 g2
          have g0 := HH7.out.cell 0
          have g1 := HH7.out.cell 1
          have g2 := HH7.out.cell 2
          simp at g0 g1 g2
          clear HB6 HH6
          go_wp2_with fail
          refine (P3.out _ HB7.out).mono ?_
          rintro e w8 ⟨rfl, hb⟩
          have HB8 := hide (bel_trans HB7.out hb)
          have HH8 := hide (HH7.out.below hb HH7.out.lt)
          clear hb P3 g0 g1 g2
          have g0 := HH8.out.cell 0
          have g1 := HH8.out.cell 1
          have g2 := HH8.out.cell 2
          simp at g0 g1 g2
          clear HB7 HH7
          cases x2 with
          | true =>
            obtain ⟨rfl, rfl, rfl⟩ := HM.out.1 rfl
            clear HM
            go_wp2_with fail
            refine (PO.out _ HB8.out).mono ?_
            rintro e w9 ⟨rfl, hb⟩
            have HB9 := hide (bel_trans HB8.out hb)
            clear hb PO g0 g1 g2
            go_wp2_with fail
            go_roundw
            case rel => exact ⟨i + 1, by have := HHN.out; omega, by rw [show (((i + 1 : Nat)) : Int) = (i : Int) + 1 by omega], HB9.out⟩
            case measure => have := HHN.out; simp [intOf]; omega
          | false =>
            cases x3 with
            | true =>
              obtain rfl := HM.out.2 rfl
              clear HM
              go_wp2_with fail
              refine (PO.out _ HB8.out).mono ?_
              rintro e w9 ⟨rfl, hb⟩
              have HB9 := hide (bel_trans HB8.out hb)
              clear hb PO g0 g1 g2
              go_wp2_with fail
              go_roundw
              case rel => exact ⟨i + 1, by have := HHN.out; omega, by rw [show (((i + 1 : Nat)) : Int) = (i : Int) + 1 by omega], HB9.out⟩
              case measure => have := HHN.out; simp [intOf]; omega
            | false =>
              clear HM PO
              go_wp2_with fail
              go_roundw
              case rel => exact ⟨i + 1, by have := HHN.out; omega, by rw [show (((i + 1 : Nat)) : Int) = (i : Int) + 1 by omega], HB8.out⟩
              case measure => have := HHN.out; simp [intOf]; omega
        · obtain rfl : i = n := by omega
          clear hin hi
          go_wp2_with fail
          refine (law_alive _).mono ?_
          rintro e w4 ⟨rfl, hB4⟩
          go_wp2_with fail
          go_ret
          exact ⟨rfl, bel_trans HB.out hB4⟩
    · clear hr1 hr2 hr3
      have dz : (r3 != 0) = true := bne_iff_ne.2 hz
      clear hz
      go_enter Try.func9, Try.ntmps9
      go_wp2_with fail
      refine HLG.out.mono ?_
      rintro e w1 ⟨rfl, hB1⟩
      have HB1 := hide hB1
      clear hB1 HLG
      go_wp2_with fail
      refine (HCK.out _ HB1.out).mono ?_
      rintro e w2 ⟨rfl, hB2⟩
      have HB2 := hide (bel_trans HB1.out hB2)
      clear hB2 HCK HB1
      go_wp2_with fail
      refine (law_alive _).mono ?_
      rintro e w4 ⟨rfl, hB4⟩
      go_wp2_with fail
      go_ret
      exact ⟨rfl, bel_trans HB2.out hB4⟩
end Go.Proofs.Ytkflofjcjolehaa
