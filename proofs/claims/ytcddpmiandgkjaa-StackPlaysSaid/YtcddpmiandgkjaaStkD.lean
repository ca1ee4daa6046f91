import Derived.Test.YtcddpmiandgkjaaStkC
import Derived.Test.YtcddpmiandgkjaaGrowW
/-! Package stack: Store, of the program. -/
namespace Go.Proofs.Ytcddpmiandgkjaa
open Go.RowKit Go.Maps Go.Lib
set_option maxHeartbeats 1000000
set_option maxRecDepth 100000
set_option linter.unusedSimpArgs false
set_option linter.unusedVariables false

def setN (l : List Bool) (f : Nat) (v : Bool) : Nat → List Bool
  | 0 => l
  | n + 1 => (setN l f v n).set (f + n) v
def clrN (l : List AV) (f : Nat) : Nat → List AV
  | 0 => l
  | n + 1 => (clrN l f n).set ((f + n) / 8) .nil
def putN (l : List Int) (f : Nat) (t : List Int) : Nat → List Int
  | 0 => l
  | n + 1 => (putN l f t n).set (f + n) (t.getD n 0)

theorem setN_length (l : List Bool) (f : Nat) (v : Bool) : ∀ n, (setN l f v n).length = l.length
  | 0 => rfl
  | n + 1 => by unfold setN; rw [List.length_set, setN_length l f v n]
theorem clrN_length (l : List AV) (f : Nat) : ∀ n, (clrN l f n).length = l.length
  | 0 => rfl
  | n + 1 => by unfold clrN; rw [List.length_set, clrN_length l f n]
theorem putN_length (l : List Int) (f : Nat) (t : List Int) : ∀ n, (putN l f t n).length = l.length
  | 0 => rfl
  | n + 1 => by unfold putN; rw [List.length_set, putN_length l f t n]

/-- What is set anew, the bytes or the slots. -/
def Stk.num (σ : Stk) (f n : Nat) (x : Int) : Stk := ⟨putN σ.b f (wordNums x n) n, setN σ.s f true n, clrN σ.l f n⟩
def Stk.spill (σ : Stk) (f : Nat) (v : AV) : Stk := ⟨σ.b, setN σ.s f false 8, σ.l.set (f / 8) v⟩
def AV.numOf : AV → Option Int
  | .num x => some x
  | _ => none
/-- Store. -/
def Stk.store (σ : Stk) (a n : Int) (v : AV) : Stk × Int :=
  if stkIn a n = false then (σ, 230) else if v.is = false then (σ, 220) else
  match v.numOf with
  | some x => (σ.num (a + 128).toNat n.toNat x, 0)
  | none => if n = 8 ∧ (a + 128) % 8 = 0 then (σ.spill (a + 128).toNat v, 0) else (σ, 221)

theorem Stk.ok.setS {σ : Stk} (h : σ.ok) (j : Nat) (v : Bool) : ({ σ with s := σ.s.set j v } : Stk).ok := ⟨h.b, by simp [h.s], h.l, h.range, h.is⟩
theorem Stk.ok.setL {σ : Stk} (h : σ.ok) (j : Nat) (v : AV) (hv : v = .nil ∨ v.is = true) : ({ σ with l := σ.l.set j v } : Stk).ok :=
  ⟨h.b, h.s, by simp [h.l], h.range, fun u hu => by
    rcases List.mem_or_eq_of_mem_set hu with hu | rfl
    · exact h.is u hu
    · exact hv⟩

section
variable {w w' : World} {p mb x : Nat} {σ : Stk} {S : Nat → Prop}
theorem StkIs.setS (h : StkIs w p mb σ) {j : Nat} (hj : j < 128) (v : Bool) : StkIs (w.setCell ⟨p, 128 + j, none⟩ (.bool v)) p mb { σ with s := σ.s.set j v } := by
  refine ⟨?_, ?_, h.ok.setS j v⟩
  · rw [← Stk.set_s h.ok.b h.ok.s hj v]
    exact h.has.set _ _
  · obtain ⟨m, hm, hg⟩ := h.map
    exact ⟨m, hm.set _ _, hg⟩

theorem getD_set {α : Type} (l : List α) (k j : Nat) (v d : α) (hk : k < l.length) : (l.set k v).getD j d = if k = j then v else l.getD j d := by
  rw [List.getD_eq_getElem?_getD, List.getD_eq_getElem?_getD, List.getElem?_set]
  by_cases e : k = j
  · subst e; simp [hk]
  · simp [e]

/-- delete(s.slots, k). -/
theorem StkIs.del (h : StkIs w p mb σ) {k : Nat} (hk : k < 16) (ty : TypeId) :
    ∃ w2, (Builtin.delete_ #[82, 3] ty #[.map (some mb), .int .i64 (k : Int)]).run Try.prog w = .ok (.tuple #[]) w2 ∧ StkIs w2 p mb { σ with l := σ.l.set k .nil } ∧ Turned (fun q => q = p ∨ q = mb) w w2 := by
  obtain ⟨m, hm, hg⟩ := h.map
  obtain ⟨w2, h1, h2, h3⟩ := run_del (ty := ty) int_mkey Try.underlying82 hm (a := (k : Int)) (small_ok hk)
  refine ⟨w2, h1, ⟨h.has.turned h3 h.ne, ⟨_, h2, fun j hj => ?_⟩, h.ok.setL k .nil (.inl rfl)⟩, h3.wide (fun q _ hq => .inr hq)⟩
  rw [mget_del _ _ hm.nodup, getD_set _ _ _ _ _ (by rw [h.ok.l]; exact hk)]
  by_cases e : k = j
  · subst e; rw [if_pos rfl, if_pos rfl]; rfl
  · rw [if_neg (by omega), if_neg e]; exact hg j hj

/-- s.slots[k] = v. -/
theorem StkIs.put (h : StkIs w p mb σ) {k : Nat} (hk : k < 16) (v : AV) (hv : v.is = true) :
    ∃ w2, (Instr.mapUpdate 82 (.map (some mb)) (.int .i64 (k : Int)) v.enc).run Try.prog w = .ok () w2 ∧ StkIs w2 p mb { σ with l := σ.l.set k v } ∧ Turned (fun q => q = p ∨ q = mb) w w2 := by
  obtain ⟨m, hm, hg⟩ := h.map
  obtain ⟨w2, h1, h2, h3⟩ := run_put int_mkey Try.underlying82 hm (a := (k : Int)) (small_ok hk) v.enc
  refine ⟨w2, h1, ⟨h.has.turned h3 h.ne, ⟨_, h2, fun j hj => ?_⟩, h.ok.setL k v (.inr hv)⟩, h3.wide (fun q _ hq => .inr hq)⟩
  rw [mget_put, getD_set _ _ _ _ _ (by rw [h.ok.l]; exact hk)]
  by_cases e : k = j
  · subst e; rw [if_pos rfl, if_pos rfl]; cases v <;> first | rfl | cases hv
  · rw [if_neg (by omega), if_neg e]; exact hg j hj

theorem StkIs.free (h : StkIs w p mb σ) (j : Nat) : w.frozen? ⟨p, j, none⟩ = false := h.has.free j
end

/-- A slice of an array, in a drawn region. -/
theorem fx_slice {P : Program} {o : Oper} {a : Act} {w : World} {K : Act → World → Prop} {Q : Exit → Act → World → Prop} (t : TypeId) (x y : Operand) (p l v : Value) (ho : o.op = .slice t x (some y) none none) (hx : a.eval x = p) (hy : a.eval y = l)
    (hr : (Instr.sliceAt t p (some l) none none).run P w = .ok v w) (h : K (a.put o.dst v) w) : o.wp P a w K Q := by
  refine wp_step_run v ?_ h
  unfold execOp
  rw [ho]
  show ((Instr.sliceAt t (a.eval x) (some (a.eval y)) none none).bind fun z => pure (Next.value z)).run P w = _
  rw [hx, hy]
  simp only [Sem.run_bind', hr, Result.andThen]
  rfl

theorem putN_form (f : Nat) (t : List Int) : ∀ (n : Nat) (l : List Int), n ≤ t.length → f + n ≤ l.length → putN l f t n = l.take f ++ t.take n ++ l.drop (f + n)
  | 0, l, _, h => by simp [putN]
  | n + 1, l, ht, h => by
    unfold putN
    rw [putN_form f t n l (by omega) (by omega)]
    have h1 : (l.take f ++ t.take n).length = f + n := by rw [List.length_append, List.length_take, List.length_take]; omega
    rw [List.set_append_right _ _ (by omega), h1, Nat.sub_self, List.drop_eq_getElem_cons (by omega), List.set_cons_zero]
    have h2 : t.take (n + 1) = t.take n ++ [t.getD n 0] := by
      rw [List.take_add_one, List.getD_eq_getElem?_getD, List.getElem?_eq_getElem (by omega)]
      rfl
    rw [h2]
    simp [Nat.add_assoc]

theorem setRow_has {w : World} {g : Nat} {t : TypeId} {cs : Array Value} (h : Has w g t cs) (cs2 : Array Value) : Has (w.setRow g cs2) g t cs2 := setRow_heap w g cs cs2 t (0, 0) h
theorem setRow_turned (w : World) (g : Nat) (cs : Array Value) : Turned (fun q => q = g) w (w.setRow g cs) := ⟨rfl, rfl, rfl, by simp, fun k _ hn => setRow_other w g k cs hn⟩

theorem byteCells_str (t : List Int) (ht : ∀ x ∈ t, 0 ≤ x ∧ x < 256) : byteCells (strOfNums t).data.toList = t.map (Value.int .u8) := by
  unfold byteCells strOfNums
  simp only [List.map_map]
  apply List.map_congr_left
  intro x hx
  have := ht x hx
  simp only [Function.comp]
  congr 1
  simp
  omega

theorem Stk.put_cells (σ : Stk) (mb : Nat) (f : Nat) (t : List Int) (ht : ∀ x ∈ t, 0 ≤ x ∧ x < 256) (hb : σ.b.length = 128) (h : f + t.length ≤ 128) :
    ((σ.cells mb).toList.take f ++ byteCells (strOfNums t).data.toList ++ (σ.cells mb).toList.drop (f + (strOfNums t).size)).toArray = ({ σ with b := putN σ.b f t t.length } : Stk).cells mb := by
  rw [byteCells_str t ht, strOfNums_size_]
  unfold Stk.cells
  simp only []
  rw [putN_form f t t.length σ.b (Nat.le_refl _) (by omega), List.take_length]
  congr 1
  rw [List.append_assoc (σ.b.map _), List.take_append_of_le_length (by simp; omega), List.drop_append_of_le_length (by simp; omega)]
  simp [List.map_take, List.map_drop]

/-- A stack's state in the midst of Store's loop. -/
def Stk.mid (σ : Stk) (f : Nat) (v : Bool) (k : Nat) : Stk := ⟨σ.b, setN σ.s f v k, clrN σ.l f k⟩

theorem stk_store_num (w : World) (p mb : Nat) (σ : Stk) (h : StkIs w p mb σ) (a : Int) (f m : Nat) (hf : a + 128 = f) (hi : stkIn a m = true) (x : Int) (hx0 : 0 ≤ x) (hx1 : x < 18446744073709551616) :
    Calls Try.prog 12 #[.pointer (some ⟨p, 0, none⟩), .int .i64 a, .int .i64 (m : Int), AV.enc (.num x)] w fun e w' => e = .returned (.int .i64 0) ∧ StkIs w' p mb (σ.num f m x) ∧ Turned (fun q => q = p ∨ q = mb) w w' := by
  obtain ⟨hn, ha0, ha1⟩ := load_in σ a m hi
  have hfm : f + m ≤ 128 := by omega
  have hm1 : 1 ≤ m := by omega
  have hwo : wordOf x (m : Int) = strOfNums (wordNums x m) := by unfold wordOf; rw [if_pos hn]; rfl
  have HWO := hide hwo
  clear hwo hn ha0 ha1
  have H := hide h
  have C0 := hide (val_number w (.num x))
  have C := hide (fun W (h : StkIs W p mb σ) => stk_none W p mb h.cmap)
  have C2 := stk_within w a m
  rw [hi] at C2
  have C2 := hide C2
  have C3 := hide (fun W => val_isv W (.num x))
  simp only [AV.is, AV.isNum] at C3 C0
  have hw2 : IntKind.i64.wrap (a + 128) = (f : Int) := by rw [wrap_i64 (by omega) (by omega)]; exact hf
  have HF := hide hf
  clear h hi hf
  go_enter Try.func12, Try.ntmps12
  go_wp2_with fail
  refine C0.out.mono ?_
  rintro e w1 ⟨rfl, rfl⟩
  go_wp2_with fail
  refine (C.out _ H.out).mono ?_
  rintro e w1 ⟨rfl, rfl⟩
  go_wp2_with fail
  refine C2.out.mono ?_
  rintro e w1 ⟨rfl, hb⟩
  go_wp2_with fail
  refine (C3.out _).mono ?_
  rintro e w2 ⟨rfl, hb2⟩
  replace hb2 := below_on hb hb2
  clear hb
  go_wp2_with fail
  go_loopw [45] (fun i wr => ∃ k : Nat, k ≤ m ∧ i = .int .i64 k ∧ StkIs wr p mb (σ.mid f true k) ∧ Turned (fun q => q = p ∨ q = mb) w wr) (fun i _ => m - (intOf i).toNat)
  case atStart => exact ⟨0, Nat.zero_le _, rfl, H.out.below hb2, Turned.of_below hb2⟩
  case round =>
    obtain ⟨k, hk, rfl, hS, hT⟩ := hrel
    have cm := hS.cmap
    have HS := hide hS
    have HT := hide hT
    clear hS hT
    by_cases hlt : k < m
    · have hki : (k : Int) < (m : Int) := by omega
      have hc := HS.out.cset (j := f + k) (by omega)
      have hfr := HS.out.free (128 + (f + k))
      have hs1 := HS.out.setS (j := f + k) (by omega) true
      have cm1 := hs1.cmap
      obtain ⟨w3, hd, hs3, ht3⟩ := hs1.del (k := (f + k) / 8) (by omega) 0
      rw [show (((f + k) / 8 : Nat) : Int) = ((f : Int) + (k : Int)) / 8 by omega] at hd
      have HS3 := hide hs3
      have HT3 := hide ((HT.out.set (p := ⟨p, 128 + (f + k), none⟩) (fun _ => .inl rfl) (.bool true)).trans ht3)
      clear hs1 hs3 ht3
      go_wp2_with fail
      exact ⟨⟨k + 1, by omega, by simp, HS3.out, HT3.out⟩, by simp [intOf]; omega⟩
    · have hkm : k = m := by omega
      subst hkm
      go_wp2_with fail
      have HSL : Hid (∀ W : World, (Instr.sliceAt 42 (.pointer (some ⟨p, 0, none⟩)) (some (.int .i64 (f : Int))) none none).run Try.prog W = .ok (.slice (some ⟨p, f, none⟩) (128 - f) (128 - f)) W) := by
        refine hide (fun W => ?_)
        have hsz : (sizeOf (Try.prog.elem 42)).run Try.prog W = .ok 1 W := by kernel_rfl
        have hsl := run_sliceAt_array_l (P := Try.prog) W 42 ⟨p, 0, none⟩ (by kernel_rfl) .i64 (f : Int) (by omega) (by rw [show Try.prog.arrayLen 42 = 128 by kernel_rfl]; omega)
        rw [hsz, show Try.prog.arrayLen 42 = 128 by kernel_rfl] at hsl
        simp only [Result.andThen, slicedAt, Int.toNat_natCast] at hsl
        rw [if_neg (by omega), show (⟨p, 0, none⟩ : Addr).add (f * 1) = ⟨p, f, none⟩ by rw [Addr.add_mid, Nat.mul_one, Nat.zero_add]] at hsl
        exact hsl
      refine wp_region_fixed [66, 67, 68, 69, 70, 71, 72, 73]
        [.pointer (some ⟨p, 0, none⟩), .pointer (some ⟨p, 0, none⟩), .pointer (some ⟨p, 0, none⟩), .int .i64 (f : Int), .slice (some ⟨p, f, none⟩) (128 - f) (128 - f), .int .u64 x, .int .i64 (k : Int), .string (wordOf x (k : Int))] (by kernel_rfl) (by simp) rfl (by kernel_rfl) (by kernel_rfl) (by kernel_rfl) (by simp) (by decide) ?_ ?_
      · refine ⟨?_, ?_, ?_, ?_, ?_, ?_, ?_, ?_, trivial⟩
        · exact .inl ⟨.inl rfl, fun a' W hB hold he K hK => fx_move (.tmp 0) _ (.inl rfl) (hold 0 (by decide)) (hK _ (Below.refl _ _))⟩
        · exact .inl ⟨.inl rfl, fun a' W hB hold he K hK => fx_nil (.tmp 66) _ rfl (he ⟨0, .data⟩ (by simp) rfl) (hK _ (Below.refl _ _))⟩
        · exact .inl ⟨.inl rfl, fun a' W hB hold he K hK => fx_field 84 (.tmp 67) 0 _ _ rfl (he ⟨1, .data⟩ (by simp) rfl) (by kernel_rfl) (hK _ (Below.refl _ _))⟩
        · exact .inl ⟨.inl rfl, fun a' W hB hold he K hK => fx_move (.tmp 11) _ (.inl rfl) (hold 11 (by decide)) (hK _ (Below.refl _ _))⟩
        · exact .inl ⟨.inl rfl, fun a' W hB hold he K hK => fx_slice 42 (.tmp 68) (.tmp 69) _ _ _ rfl (he ⟨2, .data⟩ (by simp) rfl) (he ⟨3, .data⟩ (by simp) rfl) (HSL.out W) (hK _ (Below.refl _ _))⟩
        · exact .inl ⟨.inl rfl, fun a' W hB hold he K hK => fx_move (.tmp 9) _ (.inl rfl) (hold 9 (by decide)) (hK _ (Below.refl _ _))⟩
        · exact .inl ⟨.inl rfl, fun a' W hB hold he K hK => fx_move (.tmp 2) _ (.inl rfl) (hold 2 (by decide)) (hK _ (Below.refl _ _))⟩
        · exact .inl ⟨.inl rfl, fun a' W hB hold he K hK => (by have h0 : a'.eval (.tmp 71) = _ := (he ⟨5, .data⟩ (by simp) rfl); have h1 : a'.eval (.tmp 72) = _ := (he ⟨6, .data⟩ (by simp) rfl); exact wp_step_call 41 #[_, _] (by simp only [execOp, h0, h1]; simp [go_sem] <;> simp_all [Act.eval]) ((word_of x (k : Int) hx0 hx1 W).mono (by rintro e1 w' ⟨rfl, hb⟩; exact ⟨_, rfl, hK _ hb⟩)))⟩
      intro W1 hb3
      have HW := hide (HS.out.below hb3)
      have HTW := hide (HT.out.trans (Turned.of_below hb3))
      clear hb3
      have hln : (wordNums x k).length = k := wordNums_length x k
      have hcp := run_copy_row_string (P := Try.prog) W1 68 9 3 5 p f (128 - f) (128 - f) (strOfNums (wordNums x k)) _ 84 Try.underlying68 (by kernel_rfl) HW.out.has (by rw [strOfNums_size_, hln]; omega) (by
        rw [strOfNums_size_, hln]
        unfold Stk.cells
        simp [HW.out.ok.b, HW.out.ok.s]
        omega)
      rw [Stk.put_cells (σ.mid f true k) mb f (wordNums x k) (wordNums_range x k) HW.out.ok.b (by rw [hln]; exact hfm), hln] at hcp
      have hfin : StkIs (W1.setRow p (({ (σ.mid f true k) with b := putN (σ.mid f true k).b f (wordNums x k) k } : Stk).cells mb)) p mb (σ.num f k x) := by
        refine ⟨setRow_has HW.out.has _, ?_, ?_, HW.out.ok.s, HW.out.ok.l, ?_, HW.out.ok.is⟩
        · obtain ⟨mm, hm, hg⟩ := HW.out.map
          exact ⟨mm, hm.kept (setRow_other _ _ _ _ (Ne.symm HW.out.ne)), hg⟩
        · show (putN σ.b f (wordNums x k) k).length = 128
          rw [putN_length]; exact HW.out.ok.b
        · intro y hy
          have hy : y ∈ putN σ.b f (wordNums x k) k := hy
          have hb := HW.out.ok.b
          have hb : σ.b.length = 128 := hb
          rw [putN_form _ _ _ _ (by rw [hln]; exact Nat.le_refl _) (by omega)] at hy
          simp only [List.mem_append] at hy
          rcases hy with (hy | hy) | hy
          · exact HW.out.ok.range y (List.mem_of_mem_take hy)
          · exact wordNums_range x k y (List.mem_of_mem_take hy)
          · exact HW.out.ok.range y (List.mem_of_mem_drop hy)
      have HFIN := hide hfin
      have htu := HTW.out.trans ((setRow_turned W1 p (({ (σ.mid f true k) with b := putN (σ.mid f true k).b f (wordNums x k) k } : Stk).cells mb)).wide (S2 := fun q => q = p ∨ q = mb) (fun q _ hq => .inl hq))
      have HTU := hide htu
      clear hfin htu
      generalize W1.setRow p (({ (σ.mid f true k) with b := putN (σ.mid f true k).b f (wordNums x k) k } : Stk).cells mb) = W2 at *
      simp only [putAll, List.length_cons, List.length_nil, Nat.reduceAdd, List.drop_succ_cons, List.drop_zero]
      rw [HWO.out]
      generalize strOfNums (wordNums x k) = T at *
      go_wp2_with fail
      go_ret
      exact ⟨rfl, HFIN.out, HTU.out⟩

end Go.Proofs.Ytcddpmiandgkjaa
