/- Types: lemmas on what the functions that the laws reach answer. No conditions of their own beyond those that each theorem states. -/
import Derived.Test.YtkflofjcjolehaaBig13
import Derived.Test.YtkflofjcjolehaaBig14
/-! Types: steps of Encode's drawn regions. -/
namespace Go.Proofs.Ytkflofjcjolehaa
open Go.RowKit Go.Proofs.YtkflofjcjolehaaW.PrintWords
set_option maxHeartbeats 4000000
set_option maxRecDepth 100000
set_option linter.unusedSimpArgs false
set_option linter.unusedVariables false

theorem build_1 {ρ : Operand → Value} {o : Oper} {k : Nat} {x : Int} (ho : o.op = .buildSlice 83 1 #[(0, .tmp k)]) (h : ρ (.tmp k) = .int .i64 x) (W : World) :
    (execOp ρ o).run Try.prog W = .ok (.value (.slice (some ⟨W.heap.size, 0, none⟩) 1 1)) (W.alloc (.cells #[.int .i64 x] 3)) := by
  unfold execOp
  rw [ho]
  simp [go_sem, h]
theorem build_2 {ρ : Operand → Value} {o : Oper} {k k2 : Nat} {x x2 : Int} (ho : o.op = .buildSlice 83 2 #[(0, .tmp k), (1, .tmp k2)]) (h : ρ (.tmp k) = .int .i64 x) (h2 : ρ (.tmp k2) = .int .i64 x2) (W : World) :
    (execOp ρ o).run Try.prog W = .ok (.value (.slice (some ⟨W.heap.size, 0, none⟩) 2 2)) (W.alloc (.cells #[.int .i64 x, .int .i64 x2] 3)) := by
  unfold execOp
  rw [ho]
  simp [go_sem, h, h2]
theorem build_4 {ρ : Operand → Value} {o : Oper} {k k2 k3 k4 : Nat} {x x2 x3 x4 : Int} (ho : o.op = .buildSlice 83 4 #[(0, .tmp k), (1, .tmp k2), (2, .tmp k3), (3, .tmp k4)]) (h : ρ (.tmp k) = .int .i64 x) (h2 : ρ (.tmp k2) = .int .i64 x2) (h3 : ρ (.tmp k3) = .int .i64 x3) (h4 : ρ (.tmp k4) = .int .i64 x4) (W : World) :
    (execOp ρ o).run Try.prog W = .ok (.value (.slice (some ⟨W.heap.size, 0, none⟩) 4 4)) (W.alloc (.cells #[.int .i64 x, .int .i64 x2, .int .i64 x3, .int .i64 x4] 3)) := by
  unfold execOp
  rw [ho]
  simp [go_sem, h, h2, h3, h4]
theorem cat_str {ρ : Operand → Value} {o : Oper} {k k2 : Nat} {x y : ByteArray} (ho : o.op = .binOp .add 9 (.tmp k) (.tmp k2) 9) (h : ρ (.tmp k) = .string x) (h2 : ρ (.tmp k2) = .string y) (hs : x.size + y.size ≤ 9223372036854775807) (W : World) :
    (execOp ρ o).run Try.prog W = .ok (.value (.string (x ++ y))) W := by
  have hs' : ¬ 9223372036854775807 < x.size + y.size := by omega
  unfold execOp
  rw [ho]
  simp [go_sem, h, h2, hs']
theorem len_str {ρ : Operand → Value} {o : Oper} {k : Nat} {x : ByteArray} (ho : o.op = .call { callee := .builtin .len, args := #[.tmp k], argTypes := #[9] }) (h : ρ (.tmp k) = .string x) (W : World) :
    (execOp ρ o).run Try.prog W = .ok (.value (.int .i64 x.size)) W := by
  unfold execOp
  rw [ho]
  simp [go_sem, h]
theorem len_sl {ρ : Operand → Value} {o : Oper} {k : Nat} {A : Option Addr} {n c : Nat} (ho : o.op = .call { callee := .builtin .len, args := #[.tmp k], argTypes := #[42] }) (h : ρ (.tmp k) = .slice A n c) (W : World) :
    (execOp ρ o).run Try.prog W = .ok (.value (.int .i64 n)) W := by
  unfold execOp
  rw [ho]
  simp [go_sem, h]
theorem call_put {ρ : Operand → Value} {o : Oper} {k : Nat} {v : Value} (ho : o.op = .call { callee := .value (.func 30), args := #[.tmp k], argTypes := #[83] }) (h : ρ (.tmp k) = v) (hf : ρ (.func 30) = .func (.func 30) #[] #[]) (W : World) :
    (execOp ρ o).run Try.prog W = .ok (.enter 30 #[v]) W := by
  unfold execOp
  rw [ho]
  simp [go_sem, h, hf]
theorem conv_u8 {ρ : Operand → Value} {o : Oper} {k : Nat} {x : Int} (ho : o.op = .convert 5 3 (.tmp k)) (h : ρ (.tmp k) = .int .u8 x) (h0 : 0 ≤ x) (h1 : x ≤ 255) (W : World) :
    (execOp ρ o).run Try.prog W = .ok (.value (.int .i64 x)) W := by
  unfold execOp
  rw [ho]
  simp [go_sem, h]
  rw [w64]
  unfold wrap64
  omega
theorem load_str (W : World) (b i : Nat) (s : ByteArray) (h : W.cell? ⟨b, i, none⟩ = some (.string s)) : (Instr.loadAt 9 (.pointer (some ⟨b, i, none⟩))).run Try.prog W = .ok (.string s) W := by go_simp
theorem load_int (W : World) (b i : Nat) (s : Int) (h : W.cell? ⟨b, i, none⟩ = some (.int .i64 s)) : (Instr.loadAt 3 (.pointer (some ⟨b, i, none⟩))).run Try.prog W = .ok (.int .i64 s) W := by go_simp
theorem load_u8 (W : World) (b i : Nat) (s : Int) (h : W.cell? ⟨b, i, none⟩ = some (.int .u8 s)) : (Instr.loadAt 5 (.pointer (some ⟨b, i, none⟩))).run Try.prog W = .ok (.int .u8 s) W := by go_simp
theorem load_fs (W : World) (b i : Nat) (A : Option Addr) (n c : Nat) (h : W.cell? ⟨b, i, none⟩ = some (.slice A n c)) : (Instr.loadAt 42 (.pointer (some ⟨b, i, none⟩))).run Try.prog W = .ok (.slice A n c) W := by go_simp

/-- What a slot of such a region holds: a value that is known, or a row of numbers that is new. -/
def EPhi (L : List (Value ⊕ List Int)) (i : Nat) (v : Value) (W : World) : Prop := match L.getD i (.inl undef) with
  | .inl u => v = u
  | .inr l => ∃ b, v = .slice (some ⟨b, 0, none⟩) l.length l.length ∧ Has W b 3 (l.map (Value.int .i64)).toArray
theorem EPhi_lasts (L : List (Value ⊕ List Int)) (i : Nat) : LastsW (EPhi L i) := by
  intro v W W' hB h
  unfold EPhi at h ⊢
  split at h
  · exact h
  · obtain ⟨b, e, hh⟩ := h
    exact ⟨b, e, hh.below hB hh.lt⟩
theorem EPhi_blk (L : List (Value ⊕ List Int)) (i : Nat) (v : Value) (W : World) (b : Nat) (h : EPhi L i v W) (hb : (fun (_ : Nat) (_ : Value) => (none : Option Nat)) i v = some b) : b < W.heap.size := by cases hb
theorem ints_C {W : World} {b : Nat} {l : List Int} (h : Has W b 3 (l.map (Value.int .i64)).toArray) (hn : l.length ≤ 9223372036854775807) : (Kd.int .i64).C W (some ⟨b, 0, none⟩) l.length l := by
  refine ⟨rfl, hn, fun _ => ⟨_, rfl, fun j p hj => ⟨[.int .i64 p], rfl, rfl, fun i u hu => ?_⟩⟩⟩
  obtain ⟨rfl, rfl⟩ : i = 0 ∧ u = .int .i64 p := by
    cases i with
    | zero => exact ⟨rfl, by simpa using hu.symm⟩
    | succ i => simp at hu
  have h1 := h.cell j
  rw [show (⟨b, 0, none⟩ : Addr).add (j * (Kd.int .i64).sz + 0) = ⟨b, j, none⟩ by rw [show (Kd.int .i64).sz = 1 from rfl, Nat.mul_one, Nat.add_zero]; exact add_plain _ _, h1]
  simp [hj]
end Go.Proofs.Ytkflofjcjolehaa

/-! Types: Encode. -/
namespace Go.Proofs.Ytkflofjcjolehaa
open Go.RowKit Go.Proofs.YtkflofjcjolehaaW.PrintWords
set_option maxHeartbeats 4000000
set_option maxRecDepth 100000
set_option linter.unusedSimpArgs false
set_option linter.unusedVariables false

theorem small_b (W : World) (l : List Int) (cs : Array Value) (b : Nat) (hb : W.heap.size = b) (hcs : cs = (l.map (Value.int .i64)).toArray) (hn : l.length ≤ 9223372036854775807) (k : Nat) (hk : k = l.length) :
    Calls Try.prog 29 #[.slice (some ⟨b, 0, none⟩) k k] (W.alloc (.cells cs 3)) fun e w' => e = .returned (.bool (smallL l)) ∧ Below (W.alloc (.cells cs 3)).heap.size (W.alloc (.cells cs 3)) w' := by
  subst hb hcs hk
  exact ty_small _ _ _ l _ rfl (ints_C (Has.new _ _ _) hn)
theorem put_b (W : World) (l : List Int) (cs : Array Value) (b : Nat) (hb : W.heap.size = b) (hcs : cs = (l.map (Value.int .i64)).toArray) (hn : l.length ≤ 9223372036854775807) (k : Nat) (hk : k = l.length) :
    Calls Try.prog 30 #[.slice (some ⟨b, 0, none⟩) k k] (W.alloc (.cells cs 3)) fun e w' => e = .returned (.string (putS l)) ∧ Below (W.alloc (.cells cs 3)).heap.size (W.alloc (.cells cs 3)) w' := by
  subst hb hcs hk
  exact ty_put _ _ _ l _ rfl (ints_C (Has.new _ _ _) hn)

theorem ty_encode (w : World) (A : Option Addr) (c : Nat) (l : List Tp) (n : Nat) (hl : l.length = n) (hC : kT.C w A n l) (hc : n ≤ c) (hok : okTps l = true) :
    Calls Try.prog 12 #[.slice A n c] w fun e w' => e = .returned (.tuple #[.string (encodeF l).1, .int .i64 (encodeF l).2]) ∧ Below w.heap.size w w' := by
  have HL := hide hl
  have HC := hide hC
  have HOK := hide hok
  obtain ⟨R, hR⟩ : ∃ R, encodeF l = R := ⟨_, rfl⟩
  rw [hR]
  unfold encodeF at hR
  rw [hl] at hR
  have HR := hide hR
  have HB1 := hide (below_box w (.cells #[.int .i64 n] 3))
  have HS := hide (small_b w [(n : Int)] #[.int .i64 n] _ rfl rfl (by simp) 1 rfl)
  clear hl hC hc hok hR
  cases hsm : smallL [(n : Int)] with
  | false =>
    rw [hsm] at HS
    go_enter Try.func12, Try.ntmps12
    go_wp2_with fail
    refine HS.out.mono ?_
    rintro e w1 ⟨rfl, hb1⟩
    go_wp2_with fail
    go_ret2
    have e := HR.out
    rw [hsm] at e
    exact ⟨by rw [← e]; rfl, bel_trans HB1.out hb1⟩
  | true =>
    rw [hsm] at HS
    have hn255 := (smallL_all hsm (n : Int) (by simp)).2
    have HR1 := hide HR.out
    rw [hsm, if_pos rfl] at HR1
    clear HR hsm
    go_enter Try.func12, Try.ntmps12
    go_wp2_with fail
    refine HS.out.mono ?_
    rintro e w1 ⟨rfl, hb1⟩
    have HB2 := hide (bel_trans HB1.out hb1)
    have HP := hide (put_b w1 [(n : Int)] #[.int .i64 n] _ rfl rfl (by simp) 1 rfl)
    clear hb1 HB1 HS
    obtain ⟨s0, hs0⟩ : ∃ s, putS [(n : Int)] = s := ⟨_, rfl⟩
    rw [hs0] at HP HR1
    have hsz0 : s0.size = 1 := by rw [← hs0, putS_size]; rfl
    have HZ0 := hide hsz0
    clear hs0 hsz0
    go_wp2_with fail
    refine HP.out.mono ?_
    rintro e w2 ⟨rfl, hb2⟩
    have HB3 := hide (bel_trans (bel_trans HB2.out (below_box _ _)) hb2)
    clear hb2 HB2 HP
    obtain ⟨Q, hQ⟩ : ∃ Q, encTps l s0 = Q := ⟨_, rfl⟩
    rw [hQ] at HR1
    have HQ := hide hQ
    clear hQ
    go_wp2_with fail
    go_loopw [4, 20] (fun sv x wr => ∃ (i : Nat) (s : ByteArray), i ≤ n ∧ x = .int .i64 i ∧ sv = .string s ∧ encTps (l.drop i) s = Q ∧ s.size + (n - i) * 100000 ≤ 9000000000000000000 ∧ Below w.heap.size w wr) (fun _ x _ => n - (intOf x).toNat)
    case atStart => exact ⟨0, s0, Nat.zero_le _, rfl, rfl, by rw [List.drop_zero]; exact HQ.out, by have := HZ0.out; omega, HB3.out⟩
    case round =>
      clear HB3 HQ HZ0
      obtain ⟨i, s, hi, rfl, rfl, hq, hz, hB⟩ := hrel
      have HQ := hide hq
      have HZ := hide hz
      have HBB := hide hB
      clear hq hz
      by_cases hin : i < n
      · have hi1 : (i : Int) < n := by omega
        have hi0 : (0 : Int) ≤ i := by omega
        obtain ⟨t, ht⟩ : ∃ x, l[i]? = some x := ⟨_, List.getElem?_eq_getElem (by rw [HL.out]; exact hin)⟩
        have hg : l.getD i zT = t := by rw [List.getD_eq_getElem?_getD, ht]; rfl
        have hot := (okTp_nm (by have := okTp_get HOK.out i (by rw [HL.out]; exact hin); rwa [hg] at this)).2.2
        have HOF := hide hot
        have hdr : l.drop i = t :: l.drop (i + 1) := by
          rw [List.drop_eq_getElem_cons (by rw [HL.out]; exact hin)]
          congr 1
          have := (List.getElem?_eq_some_iff.1 ht).2
          exact this
        rw [hdr] at HQ
        unfold encTps encHd at HQ
        obtain ⟨cb, off, A2, c2, rfl, e0, e1, e2, hl2, hF⟩ := tp_at HC.out hB ht
        have HF := hide hF
        clear hg hot hdr ht hl2 hF hB
        obtain ⟨nm, sz, fs⟩ := t
        simp only [] at e0 e1 e2 HF HQ HOF
        obtain ⟨N, hN⟩ : ∃ N, fs.length = N := ⟨_, rfl⟩
        rw [hN] at e2 HF HQ
        have HN := hide hN
        clear hN
        have HT := hide (Has.new wr 44 #[.string nm, .int .i64 sz, .slice A2 N c2])
        have HBT := hide (below_box wr (.cells #[.string nm, .int .i64 sz, .slice A2 N c2] 44))
        have HS := hide (small_b (wr.alloc (.cells #[.string nm, .int .i64 sz, .slice A2 N c2] 44)) [(nm.size : Int), sz, (N : Int)] #[.int .i64 nm.size, .int .i64 sz, .int .i64 N] (wr.heap.size + 1) (by simp) rfl (by simp) 3 rfl)
        cases hsm : smallL [(nm.size : Int), sz, (N : Int)] with
        | false =>
          rw [hsm] at HS
          go_wp2_with fail
          refine HS.out.mono ?_
          rintro e w3 ⟨rfl, hb3⟩
          go_wp2_with fail
          go_ret2
          have e := HQ.out
          rw [hsm, if_neg (by simp)] at e
          have e2 := HR1.out
          rw [← e] at e2
          exact ⟨by rw [← e2]; rfl, bel_trans (bel_trans (bel_trans HBB.out HBT.out) (below_box _ _)) hb3⟩
        | true =>
          rw [hsm] at HS
          have hnm := (smallL_all hsm (nm.size : Int) (by simp)).2
          have hNs := (smallL_all hsm (N : Int) (by simp)).2
          have HQ1 := hide HQ.out
          rw [hsm, if_pos rfl, Option.bind_some] at HQ1
          clear hsm HQ
          go_wp2_with fail
          refine HS.out.mono ?_
          rintro e w3 ⟨rfl, hb3⟩
          have HG := hide ((HT.out.alloc _).below hb3 (HT.out.alloc _).lt)
          have HB4 := hide (bel_trans (bel_trans (bel_trans HBB.out HBT.out) (below_box _ _)) hb3)
          obtain ⟨g, hgg⟩ : ∃ g, wr.heap.size = g := ⟨_, rfl⟩
          rw [hgg] at HG ⊢
          clear hb3 HT HBT HBB HS hgg e0 e1 e2
          have G0 := hide (HG.out.cell 0)
          have G1 := hide (HG.out.cell 1)
          have G2 := hide (HG.out.cell 2)
          have z1 := putS_size [(nm.size : Int)]
          have z2 := putS_size [sz, (N : Int)]
          simp at z1 z2
          have hz := HZ.out
          have HS1 : Hid ((putS [(nm.size : Int)]).size + nm.size ≤ 9223372036854775807) := hide (by omega)
          have HS2 : Hid ((putS [(nm.size : Int)] ++ nm).size + (putS [sz, (N : Int)]).size ≤ 9223372036854775807) := hide (by rw [ByteArray.size_append]; omega)
          have HS3 : Hid (s.size + (putS [(nm.size : Int)] ++ nm ++ putS [sz, (N : Int)]).size ≤ 9223372036854775807) := hide (by rw [ByteArray.size_append, ByteArray.size_append]; omega)
          have HX : Hid ((s ++ (putS [(nm.size : Int)] ++ nm ++ putS [sz, (N : Int)])).size ≤ s.size + 300) := hide (by rw [ByteArray.size_append, ByteArray.size_append, ByteArray.size_append]; omega)
          clear z1 z2 hz
          go_wp2_with fail
          refine wp_region_grows [35, 36, 37, 38, 39, 40, 41, 42, 43, 44, 45, 46, 47, 48, 49, 50, 51, 52] (EPhi [.inl (.string s), .inl (.pointer (some ⟨g, 0, none⟩)), .inl (.string nm), .inl (.int .i64 (nm.size : Int)), .inr [(nm.size : Int)], .inl (.string (putS [(nm.size : Int)])), .inl (.pointer (some ⟨g, 0, none⟩)), .inl (.string nm), .inl (.string (putS [(nm.size : Int)] ++ nm)), .inl (.pointer (some ⟨g, 1, none⟩)), .inl (.int .i64 sz), .inl (.pointer (some ⟨g, 2, none⟩)), .inl (.slice A2 N c2), .inl (.int .i64 (N : Int)), .inr [sz, (N : Int)], .inl (.string (putS [sz, (N : Int)])), .inl (.string (putS [(nm.size : Int)] ++ nm ++ putS [sz, (N : Int)])), .inl (.string (s ++ (putS [(nm.size : Int)] ++ nm ++ putS [sz, (N : Int)])))]) (fun _ _ => none) (by kernel_rfl)
            (by simp) (by kernel_rfl) (by kernel_rfl) (by kernel_rfl) (by simp) (by decide) (EPhi_lasts _) (EPhi_blk _) ?_ ?_
          · refine ⟨⟨rfl, fun a' W hB hold he K hK => ?_⟩, ⟨rfl, fun a' W hB hold he K hK => ?_⟩, ⟨rfl, fun a' W hB hold he K hK => ?_⟩, ⟨rfl, fun a' W hB hold he K hK => ?_⟩, ⟨rfl, fun a' W hB hold he K hK => ?_⟩, ⟨rfl, fun a' W hB hold he K hK => ?_⟩, ⟨rfl, fun a' W hB hold he K hK => ?_⟩, ⟨rfl, fun a' W hB hold he K hK => ?_⟩, ⟨rfl, fun a' W hB hold he K hK => ?_⟩, ⟨rfl, fun a' W hB hold he K hK => ?_⟩, ⟨rfl, fun a' W hB hold he K hK => ?_⟩, ⟨rfl, fun a' W hB hold he K hK => ?_⟩, ⟨rfl, fun a' W hB hold he K hK => ?_⟩, ⟨rfl, fun a' W hB hold he K hK => ?_⟩, ⟨rfl, fun a' W hB hold he K hK => ?_⟩, ⟨rfl, fun a' W hB hold he K hK => ?_⟩, ⟨rfl, fun a' W hB hold he K hK => ?_⟩, ⟨rfl, fun a' W hB hold he K hK => ?_⟩, trivial⟩
            · exact fx_move (.tmp 4) _ (.inl rfl) (hold 4 (by decide)) (hK _ _ (Below.refl _ _) rfl (fun b h => by cases h))
            · exact fx_field 44 (.tmp 6) 0 _ _ rfl (hold 6 (by decide)) (by kernel_rfl) (hK _ _ (Below.refl _ _) rfl (fun b h => by cases h))
            · exact wp_step_load 9 (.tmp 36) _ rfl _ (he ⟨1, .data⟩ (by simp) rfl) (load_str W _ _ _ (cell_bel G0.out hB)) (hK _ _ (Below.refl _ _) rfl (fun b h => by cases h))
            · exact wp_step_run _ (len_str rfl (he ⟨2, .data⟩ (by simp) rfl) W) (hK _ _ (Below.refl _ _) rfl (fun b h => by cases h))
            · exact wp_step_run _ (build_1 rfl (he ⟨3, .data⟩ (by simp) rfl) W) (hK _ _ (below_box _ _) ⟨_, rfl, Has.new _ _ _⟩ (fun b h => by cases h))
            · (obtain ⟨b, hb, hH⟩ : ∃ b, a'.eval (.tmp 39) = .slice (some ⟨b, 0, none⟩) 1 1 ∧ Has W b 3 ([(nm.size : Int)].map (Value.int .i64)).toArray := he ⟨4, .data⟩ (by simp) rfl; refine wp_step_call 30 #[_] (call_put rfl hb rfl W) ((ty_put W (some ⟨b, 0, none⟩) 1 [(nm.size : Int)] 1 rfl (ints_C hH (by simp))).mono ?_); rintro e w' ⟨rfl, hb'⟩; exact ⟨_, rfl, hK _ _ hb' rfl (fun b h => by cases h)⟩)
            · exact fx_field 44 (.tmp 6) 0 _ _ rfl (hold 6 (by decide)) (by kernel_rfl) (hK _ _ (Below.refl _ _) rfl (fun b h => by cases h))
            · exact wp_step_load 9 (.tmp 41) _ rfl _ (he ⟨6, .data⟩ (by simp) rfl) (load_str W _ _ _ (cell_bel G0.out hB)) (hK _ _ (Below.refl _ _) rfl (fun b h => by cases h))
            · exact wp_step_run _ (cat_str rfl (he ⟨5, .data⟩ (by simp) rfl) (he ⟨7, .data⟩ (by simp) rfl) (HS1.out) W) (hK _ _ (Below.refl _ _) rfl (fun b h => by cases h))
            · exact fx_field 44 (.tmp 6) 1 _ _ rfl (hold 6 (by decide)) (by kernel_rfl) (hK _ _ (Below.refl _ _) rfl (fun b h => by cases h))
            · exact wp_step_load 3 (.tmp 44) _ rfl _ (he ⟨9, .data⟩ (by simp) rfl) (load_int W _ _ _ (cell_bel G1.out hB)) (hK _ _ (Below.refl _ _) rfl (fun b h => by cases h))
            · exact fx_field 44 (.tmp 6) 2 _ _ rfl (hold 6 (by decide)) (by kernel_rfl) (hK _ _ (Below.refl _ _) rfl (fun b h => by cases h))
            · exact wp_step_load 42 (.tmp 46) _ rfl _ (he ⟨11, .data⟩ (by simp) rfl) (load_fs W _ _ _ _ _ (cell_bel G2.out hB)) (hK _ _ (Below.refl _ _) rfl (fun b h => by cases h))
            · exact wp_step_run _ (len_sl rfl (he ⟨12, .data⟩ (by simp) rfl) W) (hK _ _ (Below.refl _ _) rfl (fun b h => by cases h))
            · exact wp_step_run _ (build_2 rfl (he ⟨10, .data⟩ (by simp) rfl) (he ⟨13, .data⟩ (by simp) rfl) W) (hK _ _ (below_box _ _) ⟨_, rfl, Has.new _ _ _⟩ (fun b h => by cases h))
            · (obtain ⟨b, hb, hH⟩ : ∃ b, a'.eval (.tmp 49) = .slice (some ⟨b, 0, none⟩) 2 2 ∧ Has W b 3 ([sz, (N : Int)].map (Value.int .i64)).toArray := he ⟨14, .data⟩ (by simp) rfl; refine wp_step_call 30 #[_] (call_put rfl hb rfl W) ((ty_put W (some ⟨b, 0, none⟩) 2 [sz, (N : Int)] 2 rfl (ints_C hH (by simp))).mono ?_); rintro e w' ⟨rfl, hb'⟩; exact ⟨_, rfl, hK _ _ hb' rfl (fun b h => by cases h)⟩)
            · exact wp_step_run _ (cat_str rfl (he ⟨8, .data⟩ (by simp) rfl) (he ⟨15, .data⟩ (by simp) rfl) (HS2.out) W) (hK _ _ (Below.refl _ _) rfl (fun b h => by cases h))
            · exact wp_step_run _ (cat_str rfl (he ⟨0, .data⟩ (by simp) rfl) (he ⟨16, .data⟩ (by simp) rfl) (HS3.out) W) (hK _ _ (Below.refl _ _) rfl (fun b h => by cases h))
          intro vs W4 hB4 hlen hvs _
          obtain ⟨v0_, v1_, v2_, v3_, v4_, v5_, v6_, v7_, v8_, v9_, v10_, v11_, v12_, v13_, v14_, v15_, v16_, v17_, rfl⟩ : ∃ v0_ v1_ v2_ v3_ v4_ v5_ v6_ v7_ v8_ v9_ v10_ v11_ v12_ v13_ v14_ v15_ v16_ v17_, vs = [v0_, v1_, v2_, v3_, v4_, v5_, v6_, v7_, v8_, v9_, v10_, v11_, v12_, v13_, v14_, v15_, v16_, v17_] := by
            match vs, hlen with
            | [v0_, v1_, v2_, v3_, v4_, v5_, v6_, v7_, v8_, v9_, v10_, v11_, v12_, v13_, v14_, v15_, v16_, v17_], _ => exact ⟨_, _, _, _, _, _, _, _, _, _, _, _, _, _, _, _, _, _, rfl⟩
          have hlast : v17_ = _ := hvs 17 _ rfl
          clear hvs hlen
          subst hlast
          simp only [putAll, List.length_cons, List.length_nil, Nat.reduceAdd, List.drop_succ_cons, List.drop_zero]
          have HG4 := hide (HG.out.below hB4 HG.out.lt)
          have HB5 := hide (bel_trans HB4.out hB4)
          clear hB4 G0 G1 G2 HG HB4 HS1 HS2 HS3
          obtain ⟨s1, hs1⟩ : ∃ x, s ++ (putS [(nm.size : Int)] ++ nm ++ putS [sz, (N : Int)]) = x := ⟨_, rfl⟩
          rw [hs1] at HQ1 HX ⊢
          clear hs1
          obtain ⟨Q2, hQ2⟩ : ∃ Q, encFls fs s1 = Q := ⟨_, rfl⟩
          rw [hQ2] at HQ1
          have HQ2 := hide hQ2
          clear hQ2
          have g2 := HG4.out.cell 2
          simp at g2
          go_wp2_with fail
          go_loopw [4, 56] (fun sv x wr => ∃ (j : Nat) (y : ByteArray), j ≤ N ∧ x = .int .i64 j ∧ sv = .string y ∧ encFls (fs.drop j) y = Q2 ∧ y.size + (N - j) * 300 ≤ s.size + 300 + N * 300 ∧ Below w.heap.size w wr) (fun _ x _ => N - (intOf x).toNat)
          case atStart => exact ⟨0, s1, Nat.zero_le _, rfl, rfl, by rw [List.drop_zero]; exact HQ2.out, by have := HX.out; omega, HB5.out⟩
          case round =>
            clear HB5 HQ2 HX HG4 g2
            obtain ⟨j, y, hj, rfl, rfl, hq, hz, hB⟩ := hrel
            have HQ3 := hide hq
            have HZ3 := hide hz
            have HBB := hide hB
            clear hq hz
            by_cases hjN : j < N
            · have hj1 : (j : Int) < N := by omega
              have hj0 : (0 : Int) ≤ j := by omega
              obtain ⟨f, hf⟩ : ∃ x, fs[j]? = some x := ⟨_, List.getElem?_eq_getElem (by rw [HN.out]; exact hjN)⟩
              have hok := okFl_nm (HOF.out f (List.mem_of_getElem? hf))
              have hdr : fs.drop j = f :: fs.drop (j + 1) := by
                rw [List.drop_eq_getElem_cons (by rw [HN.out]; exact hjN)]
                congr 1
                exact (List.getElem?_eq_some_iff.1 hf).2
              rw [hdr] at HQ3
              unfold encFls encFl at HQ3
              obtain ⟨fb, fo, rfl, f0, f1, f2, f3, f4⟩ := fl_at HF.out hB hf
              have HKD : Hid (0 ≤ f.kd ∧ f.kd ≤ 255) := hide hok.2
              clear hok hdr hf hB
              obtain ⟨fnm, kd, pl, of, nd⟩ := f
              simp only [] at f0 f1 f2 f3 f4 HQ3 HKD
              have HT := hide (Has.new wr 46 #[.string fnm, .int .u8 kd, .int .i64 pl, .int .i64 of, .int .i64 nd])
              have HBT := hide (below_box wr (.cells #[.string fnm, .int .u8 kd, .int .i64 pl, .int .i64 of, .int .i64 nd] 46))
              have HS := hide (small_b (wr.alloc (.cells #[.string fnm, .int .u8 kd, .int .i64 pl, .int .i64 of, .int .i64 nd] 46)) [(fnm.size : Int), pl, of, nd] #[.int .i64 fnm.size, .int .i64 pl, .int .i64 of, .int .i64 nd] (wr.heap.size + 1) (by simp) rfl (by simp) 4 rfl)
              cases hsm : smallL [(fnm.size : Int), pl, of, nd] with
              | false =>
                rw [hsm] at HS
                go_wp2_with fail
                refine HS.out.mono ?_
                rintro e w5 ⟨rfl, hb5⟩
                go_wp2_with fail
                go_ret2
                have e := HQ3.out
                rw [hsm, if_neg (by simp)] at e
                have e1 := HQ1.out
                rw [← e] at e1
                have e2 := HR1.out
                rw [← e1] at e2
                exact ⟨by rw [← e2]; rfl, bel_trans (bel_trans (bel_trans HBB.out HBT.out) (below_box _ _)) hb5⟩
              | true =>
                rw [hsm] at HS
                have hfn := (smallL_all hsm (fnm.size : Int) (by simp)).2
                have HQ4 := hide HQ3.out
                rw [hsm, if_pos rfl, Option.bind_some] at HQ4
                clear hsm HQ3
                go_wp2_with fail
                refine HS.out.mono ?_
                rintro e w5 ⟨rfl, hb5⟩
                have HG := hide ((HT.out.alloc _).below hb5 (HT.out.alloc _).lt)
                have HB6 := hide (bel_trans (bel_trans (bel_trans HBB.out HBT.out) (below_box _ _)) hb5)
                obtain ⟨h, hhh⟩ : ∃ h, wr.heap.size = h := ⟨_, rfl⟩
                rw [hhh] at HG ⊢
                clear hb5 HT HBT HBB HS hhh f0 f1 f2 f3 f4
                have F0 := hide (HG.out.cell 0)
                have F1 := hide (HG.out.cell 1)
                have F2 := hide (HG.out.cell 2)
                have F3 := hide (HG.out.cell 3)
                have F4 := hide (HG.out.cell 4)
                have z1 := putS_size [(fnm.size : Int)]
                have z2 := putS_size [kd, pl, of, nd]
                simp at z1 z2
                have hz := HZ3.out
                have hz2 := HZ.out
                have HS1 : Hid ((putS [(fnm.size : Int)]).size + fnm.size ≤ 9223372036854775807) := hide (by omega)
                have HS2 : Hid ((putS [(fnm.size : Int)] ++ fnm).size + (putS [kd, pl, of, nd]).size ≤ 9223372036854775807) := hide (by rw [ByteArray.size_append]; omega)
                have HS3 : Hid (y.size + (putS [(fnm.size : Int)] ++ fnm ++ putS [kd, pl, of, nd]).size ≤ 9223372036854775807) := hide (by rw [ByteArray.size_append, ByteArray.size_append]; omega)
                have HX : Hid ((y ++ (putS [(fnm.size : Int)] ++ fnm ++ putS [kd, pl, of, nd])).size ≤ y.size + 300) := hide (by rw [ByteArray.size_append, ByteArray.size_append, ByteArray.size_append]; omega)
                clear z1 z2 hz hz2
                go_wp2_with fail
                refine wp_region_grows [72, 73, 74, 75, 76, 77, 78, 79, 80, 81, 82, 83, 84, 85, 86, 87, 88, 89, 90, 91, 92, 93] (EPhi [.inl (.string y), .inl (.pointer (some ⟨h, 0, none⟩)), .inl (.string fnm), .inl (.int .i64 (fnm.size : Int)), .inr [(fnm.size : Int)], .inl (.string (putS [(fnm.size : Int)])), .inl (.pointer (some ⟨h, 0, none⟩)), .inl (.string fnm), .inl (.string (putS [(fnm.size : Int)] ++ fnm)), .inl (.pointer (some ⟨h, 1, none⟩)), .inl (.int .u8 kd), .inl (.int .i64 kd), .inl (.pointer (some ⟨h, 2, none⟩)), .inl (.int .i64 pl), .inl (.pointer (some ⟨h, 3, none⟩)), .inl (.int .i64 of), .inl (.pointer (some ⟨h, 4, none⟩)), .inl (.int .i64 nd), .inr [kd, pl, of, nd], .inl (.string (putS [kd, pl, of, nd])), .inl (.string (putS [(fnm.size : Int)] ++ fnm ++ putS [kd, pl, of, nd])), .inl (.string (y ++ (putS [(fnm.size : Int)] ++ fnm ++ putS [kd, pl, of, nd])))]) (fun _ _ => none) (by kernel_rfl)
                  (by simp) (by kernel_rfl) (by kernel_rfl) (by kernel_rfl) (by simp) (by decide) (EPhi_lasts _) (EPhi_blk _) ?_ ?_
                · refine ⟨⟨rfl, fun a' W hB hold he K hK => ?_⟩, ⟨rfl, fun a' W hB hold he K hK => ?_⟩, ⟨rfl, fun a' W hB hold he K hK => ?_⟩, ⟨rfl, fun a' W hB hold he K hK => ?_⟩, ⟨rfl, fun a' W hB hold he K hK => ?_⟩, ⟨rfl, fun a' W hB hold he K hK => ?_⟩, ⟨rfl, fun a' W hB hold he K hK => ?_⟩, ⟨rfl, fun a' W hB hold he K hK => ?_⟩, ⟨rfl, fun a' W hB hold he K hK => ?_⟩, ⟨rfl, fun a' W hB hold he K hK => ?_⟩, ⟨rfl, fun a' W hB hold he K hK => ?_⟩, ⟨rfl, fun a' W hB hold he K hK => ?_⟩, ⟨rfl, fun a' W hB hold he K hK => ?_⟩, ⟨rfl, fun a' W hB hold he K hK => ?_⟩, ⟨rfl, fun a' W hB hold he K hK => ?_⟩, ⟨rfl, fun a' W hB hold he K hK => ?_⟩, ⟨rfl, fun a' W hB hold he K hK => ?_⟩, ⟨rfl, fun a' W hB hold he K hK => ?_⟩, ⟨rfl, fun a' W hB hold he K hK => ?_⟩, ⟨rfl, fun a' W hB hold he K hK => ?_⟩, ⟨rfl, fun a' W hB hold he K hK => ?_⟩, ⟨rfl, fun a' W hB hold he K hK => ?_⟩, trivial⟩
                  · exact fx_move (.tmp 4) _ (.inl rfl) (hold 4 (by decide)) (hK _ _ (Below.refl _ _) rfl (fun b h => by cases h))
                  · exact fx_field 46 (.tmp 8) 0 _ _ rfl (hold 8 (by decide)) (by kernel_rfl) (hK _ _ (Below.refl _ _) rfl (fun b h => by cases h))
                  · exact wp_step_load 9 (.tmp 73) _ rfl _ (he ⟨1, .data⟩ (by simp) rfl) (load_str W _ _ _ (cell_bel F0.out hB)) (hK _ _ (Below.refl _ _) rfl (fun b h => by cases h))
                  · exact wp_step_run _ (len_str rfl (he ⟨2, .data⟩ (by simp) rfl) W) (hK _ _ (Below.refl _ _) rfl (fun b h => by cases h))
                  · exact wp_step_run _ (build_1 rfl (he ⟨3, .data⟩ (by simp) rfl) W) (hK _ _ (below_box _ _) ⟨_, rfl, Has.new _ _ _⟩ (fun b h => by cases h))
                  · (obtain ⟨b, hb, hH⟩ : ∃ b, a'.eval (.tmp 76) = .slice (some ⟨b, 0, none⟩) 1 1 ∧ Has W b 3 ([(fnm.size : Int)].map (Value.int .i64)).toArray := he ⟨4, .data⟩ (by simp) rfl; refine wp_step_call 30 #[_] (call_put rfl hb rfl W) ((ty_put W (some ⟨b, 0, none⟩) 1 [(fnm.size : Int)] 1 rfl (ints_C hH (by simp))).mono ?_); rintro e w' ⟨rfl, hb'⟩; exact ⟨_, rfl, hK _ _ hb' rfl (fun b h => by cases h)⟩)
                  · exact fx_field 46 (.tmp 8) 0 _ _ rfl (hold 8 (by decide)) (by kernel_rfl) (hK _ _ (Below.refl _ _) rfl (fun b h => by cases h))
                  · exact wp_step_load 9 (.tmp 78) _ rfl _ (he ⟨6, .data⟩ (by simp) rfl) (load_str W _ _ _ (cell_bel F0.out hB)) (hK _ _ (Below.refl _ _) rfl (fun b h => by cases h))
                  · exact wp_step_run _ (cat_str rfl (he ⟨5, .data⟩ (by simp) rfl) (he ⟨7, .data⟩ (by simp) rfl) (HS1.out) W) (hK _ _ (Below.refl _ _) rfl (fun b h => by cases h))
                  · exact fx_field 46 (.tmp 8) 1 _ _ rfl (hold 8 (by decide)) (by kernel_rfl) (hK _ _ (Below.refl _ _) rfl (fun b h => by cases h))
                  · exact wp_step_load 5 (.tmp 81) _ rfl _ (he ⟨9, .data⟩ (by simp) rfl) (load_u8 W _ _ _ (cell_bel F1.out hB)) (hK _ _ (Below.refl _ _) rfl (fun b h => by cases h))
                  · exact wp_step_run _ (conv_u8 rfl (he ⟨10, .data⟩ (by simp) rfl) (HKD.out.1) (HKD.out.2) W) (hK _ _ (Below.refl _ _) rfl (fun b h => by cases h))
                  · exact fx_field 46 (.tmp 8) 2 _ _ rfl (hold 8 (by decide)) (by kernel_rfl) (hK _ _ (Below.refl _ _) rfl (fun b h => by cases h))
                  · exact wp_step_load 3 (.tmp 84) _ rfl _ (he ⟨12, .data⟩ (by simp) rfl) (load_int W _ _ _ (cell_bel F2.out hB)) (hK _ _ (Below.refl _ _) rfl (fun b h => by cases h))
                  · exact fx_field 46 (.tmp 8) 3 _ _ rfl (hold 8 (by decide)) (by kernel_rfl) (hK _ _ (Below.refl _ _) rfl (fun b h => by cases h))
                  · exact wp_step_load 3 (.tmp 86) _ rfl _ (he ⟨14, .data⟩ (by simp) rfl) (load_int W _ _ _ (cell_bel F3.out hB)) (hK _ _ (Below.refl _ _) rfl (fun b h => by cases h))
                  · exact fx_field 46 (.tmp 8) 4 _ _ rfl (hold 8 (by decide)) (by kernel_rfl) (hK _ _ (Below.refl _ _) rfl (fun b h => by cases h))
                  · exact wp_step_load 3 (.tmp 88) _ rfl _ (he ⟨16, .data⟩ (by simp) rfl) (load_int W _ _ _ (cell_bel F4.out hB)) (hK _ _ (Below.refl _ _) rfl (fun b h => by cases h))
                  · exact wp_step_run _ (build_4 rfl (he ⟨11, .data⟩ (by simp) rfl) (he ⟨13, .data⟩ (by simp) rfl) (he ⟨15, .data⟩ (by simp) rfl) (he ⟨17, .data⟩ (by simp) rfl) W) (hK _ _ (below_box _ _) ⟨_, rfl, Has.new _ _ _⟩ (fun b h => by cases h))
                  · (obtain ⟨b, hb, hH⟩ : ∃ b, a'.eval (.tmp 90) = .slice (some ⟨b, 0, none⟩) 4 4 ∧ Has W b 3 ([kd, pl, of, nd].map (Value.int .i64)).toArray := he ⟨18, .data⟩ (by simp) rfl; refine wp_step_call 30 #[_] (call_put rfl hb rfl W) ((ty_put W (some ⟨b, 0, none⟩) 4 [kd, pl, of, nd] 4 rfl (ints_C hH (by simp))).mono ?_); rintro e w' ⟨rfl, hb'⟩; exact ⟨_, rfl, hK _ _ hb' rfl (fun b h => by cases h)⟩)
                  · exact wp_step_run _ (cat_str rfl (he ⟨8, .data⟩ (by simp) rfl) (he ⟨19, .data⟩ (by simp) rfl) (HS2.out) W) (hK _ _ (Below.refl _ _) rfl (fun b h => by cases h))
                  · exact wp_step_run _ (cat_str rfl (he ⟨0, .data⟩ (by simp) rfl) (he ⟨20, .data⟩ (by simp) rfl) (HS3.out) W) (hK _ _ (Below.refl _ _) rfl (fun b h => by cases h))
                intro vs W4 hB4 hlen hvs _
                obtain ⟨v0_, v1_, v2_, v3_, v4_, v5_, v6_, v7_, v8_, v9_, v10_, v11_, v12_, v13_, v14_, v15_, v16_, v17_, v18_, v19_, v20_, v21_, rfl⟩ : ∃ v0_ v1_ v2_ v3_ v4_ v5_ v6_ v7_ v8_ v9_ v10_ v11_ v12_ v13_ v14_ v15_ v16_ v17_ v18_ v19_ v20_ v21_, vs = [v0_, v1_, v2_, v3_, v4_, v5_, v6_, v7_, v8_, v9_, v10_, v11_, v12_, v13_, v14_, v15_, v16_, v17_, v18_, v19_, v20_, v21_] := by
                  match vs, hlen with
                  | [v0_, v1_, v2_, v3_, v4_, v5_, v6_, v7_, v8_, v9_, v10_, v11_, v12_, v13_, v14_, v15_, v16_, v17_, v18_, v19_, v20_, v21_], _ => exact ⟨_, _, _, _, _, _, _, _, _, _, _, _, _, _, _, _, _, _, _, _, _, _, rfl⟩
                have hlast : v21_ = _ := hvs 21 _ rfl
                clear hvs hlen
                subst hlast
                simp only [putAll, List.length_cons, List.length_nil, Nat.reduceAdd, List.drop_succ_cons, List.drop_zero]
                have HB7 := hide (bel_trans HB6.out hB4)
                clear hB4 F0 F1 F2 F3 F4 HG HB6 HS1 HS2 HS3
                go_wp2_with fail
                go_roundw
                case rel =>
                  exact ⟨j + 1, _, by omega, by simp, rfl, HQ4.out, by have := HX.out; have := HZ3.out; omega, HB7.out⟩
                case measure => simp [intOf]; omega
            · obtain rfl : j = N := by omega
              have e := HQ3.out
              rw [List.drop_of_length_le (by rw [HN.out]; omega)] at e
              have e2 : Hid (encTps (l.drop (i + 1)) y = Q) := by
                have e1 := HQ1.out
                rw [← e] at e1
                exact hide e1
              clear e HQ1 hjN hB HQ3
              go_wp2_with fail
              go_roundw
              case rel =>
                exact ⟨i + 1, y, by omega, by simp, rfl, e2.out, by have := HZ3.out; have := HZ.out; omega, HBB.out⟩
              case measure => simp [intOf]; omega
      · obtain rfl : i = n := by omega
        have e := HQ.out
        rw [List.drop_of_length_le (by rw [HL.out]; omega)] at e
        have e2 : Hid ((s, 0) = R) := by
          have e1 := HR1.out
          rw [← e] at e1
          exact hide e1
        clear e HQ hin HR1 hB
        go_wp2_with fail
        go_ret2
        exact ⟨by rw [← e2.out]; rfl, HBB.out⟩
end Go.Proofs.Ytkflofjcjolehaa

/-! Types: alive. -/
namespace Go.Proofs.Ytkflofjcjolehaa
open Go.RowKit Go.Proofs.YtkflofjcjolehaaW.PrintWords
set_option maxHeartbeats 4000000
set_option maxRecDepth 100000
set_option linter.unusedSimpArgs false
set_option linter.unusedVariables false

def smallB : ByteArray := ⟨#[2,1,97,24,1,1,110,3,0,0,0,1,109,32,2,1,108,7,0,0,0,1,104,2,8,0,0]⟩
theorem check_l : checkF [tA 0, tM] = (0, 0, 0) := by kernel_rfl
theorem check_m : checkF [tA 0, tM1] = (1, 0, 106) := by kernel_rfl
theorem check_n : checkF [tA 4, tM] = (0, 0, 103) := by kernel_rfl
theorem enc_l : encodeF [tA 0, tM] = (smallB, 0) := by kernel_rfl
theorem dec_l : decodeF smallB = ([tA 0, tM], 0) := by kernel_rfl
theorem dec_x : decodeF (smallB ++ ⟨#[120]⟩) = ([], 8) := by kernel_rfl
theorem same_l : tysSame [tA 0, tM] [tA 0, tM] = true := by kernel_rfl
theorem of_l : ofIdx [tA 0, tM] ⟨#[109]⟩ = 1 := by kernel_rfl
theorem at_l : atIdx [fL, fH] 8 = 1 := by kernel_rfl
theorem plain_l : plainF 24 [fN 0] 16 8 = true := by kernel_rfl
theorem plain_n : plainF 24 [fN 0] 8 8 = false := by kernel_rfl
theorem obj_a : objK [fN 0] = true := by kernel_rfl
theorem obj_m : objK [fL, fH] = false := by kernel_rfl
theorem size_h : szK 2 = 16 := by kernel_rfl

theorem check_at {w : World} {g : Nat} {l : List Tp} {r1 r2 r3 : Int} (hc : kT.C w (some ⟨g, 0, none⟩) l.length l) (hl : l.length = 2) (hok : okTps l = true) (h : checkF l = (r1, r2, r3)) :
    Calls Try.prog 18 #[.slice (some ⟨g, 0, none⟩) 2 2] w fun e w' => e = .returned (.tuple #[.int .i64 r1, .int .i64 r2, .int .i64 r3]) ∧ Below w.heap.size w w' := by
  have := ty_check w (some ⟨g, 0, none⟩) 2 l 2 hl (by rw [← hl]; exact hc) (Nat.le_refl _) hok
  rw [h] at this
  exact this

theorem law_alive (w : World) : Calls Try.prog 11 #[] w fun e w' => e = .returned (.bool true) ∧ Below w.heap.size w w' := by
  go_enter Try.func11, Try.ntmps11
  go_wp2_with fail
  refine (law_small _).mono ?_
  rintro e w1 ⟨s, s1, g, rfl, hL, _, _, _, _, _, hB1⟩
  have HL := hide hL
  have HB1 := hide hB1
  clear hL hB1
  have h1 := hide (check_at HL.out.full rfl (by kernel_rfl) check_l)
  go_wp2_with fail
  refine h1.out.mono ?_
  rintro e w2 ⟨rfl, hB2⟩
  have HL2 := hide (HL.out.below hB2)
  have HB2 := hide (bel_trans HB1.out hB2)
  clear hB2 HB1 HL h1
  go_wp2_with fail
  refine (law_small _).mono ?_
  rintro e w3 ⟨m, m1, mg, rfl, hM, hm0, hmg, n1, n2, n3, hB3⟩
  have c1 := hM.t.cell 5
  have f1 := hM.t.free 5
  simp at c1
  obtain ⟨V3, hV3⟩ : ∃ V, V = w3.setCell ⟨mg, 5, none⟩ (.slice (some ⟨m1, 5, none⟩) 1 1) := ⟨_, rfl⟩
  have hB3' : Below w2.heap.size w2 V3 := by rw [hV3]; exact hB3.setCell hmg _
  have hM' : SmAt V3 m m1 mg 0 5 1 1 := by rw [hV3]; exact ⟨hM.a.far (by simp; exact fun e => n1 e.symm) _, hM.b.far (by simp; exact fun e => n2 e.symm) _, hM.t.set 5 _⟩
  have HL3 := hide (HL2.out.below hB3')
  have HB3 := hide (bel_trans HB2.out hB3')
  have h3 := hide (check_at hM'.cut rfl (by kernel_rfl) check_m)
  have HV3 := hide hV3
  clear hV3 hB3 hB3' HB2 HL2 hM hM'
  go_wp2_with fail
  rw [← HV3.out]
  refine h3.out.mono ?_
  rintro e w4 ⟨rfl, hB4⟩
  have HL4 := hide (HL3.out.below hB4)
  have HB4 := hide (bel_trans HB3.out hB4)
  clear hB4 HB3 HL3 h3 HV3 c1 f1 hm0 hmg n1 n2 n3
  go_wp2_with fail
  refine (law_small _).mono ?_
  rintro e w5 ⟨n, n1, ng, rfl, hN, hn0, hng, m1_, m2_, m3_, hB5⟩
  have c1 := hN.a.cell 2
  have f1 := hN.a.free 2
  have c2 := hN.t.cell 2
  simp at c1 c2
  obtain ⟨V5, hV5⟩ : ∃ V, V = w5.setCell ⟨n, 2, none⟩ (.int .i64 4) := ⟨_, rfl⟩
  have hB5' : Below w4.heap.size w4 V5 := by rw [hV5]; exact hB5.setCell hn0 _
  have hN' : SmAt V5 n n1 ng 4 0 2 2 := by rw [hV5]; exact ⟨hN.a.set 2 _, hN.b.far (by simp; exact fun e => m3_ e.symm) _, hN.t.far (by simp; exact m1_) _⟩
  have HL5 := hide (HL4.out.below hB5')
  have HB5 := hide (bel_trans HB4.out hB5')
  have h5 := hide (check_at hN'.full rfl (by kernel_rfl) check_n)
  have HV5 := hide hV5
  clear hV5 hB5 hB5' HB4 HL4 hN hN'
  go_wp2_with fail
  rw [← HV5.out]
  refine h5.out.mono ?_
  rintro e w6 ⟨rfl, hB6⟩
  have HL6 := hide (HL5.out.below hB6)
  have HB6 := hide (bel_trans HB5.out hB6)
  clear hB6 HB5 HL5 h5 HV5 c1 c2 f1 hn0 hng m1_ m2_ m3_
  have h6 := hide (ty_encode w6 (some ⟨g, 0, none⟩) 2 [tA 0, tM] 2 rfl HL6.out.full (Nat.le_refl _) (by kernel_rfl))
  rw [enc_l] at h6
  go_wp2_with fail
  refine h6.out.mono ?_
  rintro e w7 ⟨rfl, hB7⟩
  have HL7 := hide (HL6.out.below hB7)
  have HB7 := hide (bel_trans HB6.out hB7)
  clear hB7 HB6 HL6 h6
  have h7 := hide (ty_decode w7 smallB)
  rw [dec_l] at h7
  go_wp2_with fail
  refine h7.out.mono ?_
  rintro e w8 ⟨x, rfl, hX, hB8⟩
  obtain ⟨X, cx, rfl, hlx, hCx⟩ := Kd.R_reads hX
  have HX8 := hide hCx
  have HL8 := hide (HL7.out.below hB8)
  have HB8 := hide (bel_trans HB7.out hB8)
  clear hB8 HB7 HL7 h7 hX hCx hlx
  have h8 := hide (ty_decode w8 (smallB ++ ⟨#[120]⟩))
  rw [dec_x] at h8
  go_wp2_with fail
  refine h8.out.mono ?_
  rintro e w9 ⟨y, rfl, hY, hB9⟩
  have HX9 := hide (Kd.C_below HX8.out hB9)
  have HL9 := hide (HL8.out.below hB9)
  have HB9 := hide (bel_trans HB8.out hB9)
  clear hB9 HB8 HL8 h8 hY HX8
  have h9 := hide (ty_of w9 (some ⟨g, 0, none⟩) 2 [tA 0, tM] 2 rfl HL9.out.full ⟨#[109]⟩)
  rw [of_l] at h9
  go_wp2_with fail
  refine h9.out.mono ?_
  rintro e w10 ⟨rfl, hB10⟩
  have HX10 := hide (Kd.C_below HX9.out hB10)
  have HL10 := hide (HL9.out.below hB10)
  have HB10 := hide (bel_trans HB9.out hB10)
  clear hB10 HB9 HL9 h9 HX9
  have h10 := hide (ty_at w10 ⟨#[109]⟩ 32 (some ⟨s1, 0, none⟩) 2 [fL, fH] 2 rfl (kF_C2 (x := fL) (y := fH) HL10.out.b).1 8)
  rw [at_l] at h10
  have c3 := HL10.out.t.cell 3
  have c4 := HL10.out.t.cell 4
  have c5 := HL10.out.t.cell 5
  simp at c3 c4 c5
  go_wp2_with fail
  refine h10.out.mono ?_
  rintro e w11 ⟨rfl, hB11⟩
  have HX11 := hide (Kd.C_below HX10.out hB11)
  have HL11 := hide (HL10.out.below hB11)
  have HB11 := hide (bel_trans HB10.out hB11)
  clear hB11 HB10 HL10 h10 HX10 c3 c4 c5
  have h11 := hide (ty_same w11 X (some ⟨g, 0, none⟩) cx 2 [tA 0, tM] [tA 0, tM] 2 2 rfl rfl HX11.out HL11.out.full)
  rw [same_l] at h11
  go_wp2_with fail
  refine h11.out.mono ?_
  rintro e w12 ⟨rfl, hB12⟩
  have HL12 := hide (HL11.out.below hB12)
  have HB12 := hide (bel_trans HB11.out hB12)
  clear hB12 HB11 HL11 h11 HX11
  have h12 := hide (ty_plain w12 ⟨#[97]⟩ 24 (some ⟨s, 0, none⟩) 1 [fN 0] 1 rfl (kF_C1 (x := fN 0) HL12.out.a) 16 8)
  rw [plain_l] at h12
  have c0 := HL12.out.t.cell 0
  have c1 := HL12.out.t.cell 1
  have c2 := HL12.out.t.cell 2
  simp at c0 c1 c2
  go_wp2_with fail
  refine h12.out.mono ?_
  rintro e w13 ⟨rfl, hB13⟩
  have HL13 := hide (HL12.out.below hB13)
  have HB13 := hide (bel_trans HB12.out hB13)
  clear hB13 HB12 HL12 h12 c0 c1 c2
  have h13 := hide (ty_plain w13 ⟨#[97]⟩ 24 (some ⟨s, 0, none⟩) 1 [fN 0] 1 rfl (kF_C1 (x := fN 0) HL13.out.a) 8 8)
  rw [plain_n] at h13
  have c0 := HL13.out.t.cell 0
  have c1 := HL13.out.t.cell 1
  have c2 := HL13.out.t.cell 2
  simp at c0 c1 c2
  go_wp2_with fail
  refine h13.out.mono ?_
  rintro e w14 ⟨rfl, hB14⟩
  have HL14 := hide (HL13.out.below hB14)
  have HB14 := hide (bel_trans HB13.out hB14)
  clear hB14 HB13 HL13 h13 c0 c1 c2
  have h14 := hide (ty_object w14 ⟨#[97]⟩ 24 (some ⟨s, 0, none⟩) 1 [fN 0] 1 rfl (kF_C1 (x := fN 0) HL14.out.a))
  rw [obj_a] at h14
  have c0 := HL14.out.t.cell 0
  have c1 := HL14.out.t.cell 1
  have c2 := HL14.out.t.cell 2
  simp at c0 c1 c2
  go_wp2_with fail
  refine h14.out.mono ?_
  rintro e w15 ⟨rfl, hB15⟩
  have HL15 := hide (HL14.out.below hB15)
  have HB15 := hide (bel_trans HB14.out hB15)
  clear hB15 HB14 HL14 h14 c0 c1 c2
  have h15 := hide (ty_object w15 ⟨#[109]⟩ 32 (some ⟨s1, 0, none⟩) 2 [fL, fH] 2 rfl (kF_C2 (x := fL) (y := fH) HL15.out.b).1)
  rw [obj_m] at h15
  have c3 := HL15.out.t.cell 3
  have c4 := HL15.out.t.cell 4
  have c5 := HL15.out.t.cell 5
  simp at c3 c4 c5
  go_wp2_with fail
  refine h15.out.mono ?_
  rintro e w16 ⟨rfl, hB16⟩
  have HB16 := hide (bel_trans HB15.out hB16)
  clear hB16 HB15 HL15 h15 c3 c4 c5
  have h16 := hide (ty_size w16 2)
  rw [size_h] at h16
  go_wp2_with fail
  refine h16.out.mono ?_
  rintro e w17 ⟨rfl, rfl⟩
  go_wp2_with fail
  go_ret
  exact ⟨rfl, HB16.out⟩
end Go.Proofs.Ytkflofjcjolehaa
