import Derived.Test.YtcddpmiandgkjaaStk
/-! Package stack: read, Set, Spilled, of the program. -/
namespace Go.Proofs.Ytcddpmiandgkjaa
open Go.RowKit Go.Maps Go.Lib
set_option maxHeartbeats 1000000
set_option maxRecDepth 100000
set_option linter.unusedSimpArgs false
set_option linter.unusedVariables false

def Stk.slot (σ : Stk) (k : Nat) : AV := σ.l.getD k .nil
def Stk.isSet (σ : Stk) (j : Nat) : Bool := σ.s.getD j false
def AV.no : AV → Bool
  | .nil => true
  | _ => false
def Stk.anySp (σ : Stk) (f : Nat) : Nat → Bool
  | 0 => false
  | n + 1 => σ.anySp f n || !(σ.slot ((f + n) / 8)).no
def Stk.allSet (σ : Stk) (f : Nat) : Nat → Bool
  | 0 => true
  | n + 1 => σ.allSet f n && σ.isSet (f + n)
def Stk.text (σ : Stk) (f n : Nat) : ByteArray := strOfNums ((σ.b.drop f).take n)
/-- What is read: bytes, as they are stored; an error. -/
def Stk.read (σ : Stk) (f n : Nat) : ByteArray × Int := if σ.anySp f n then (⟨#[]⟩, 221) else if σ.allSet f n then (σ.text f n, 0) else (⟨#[]⟩, 220)

theorem Stk.anySp_of {σ : Stk} {f : Nat} : ∀ {n k : Nat}, k < n → (σ.slot ((f + k) / 8)).no = false → σ.anySp f n = true
  | n + 1, k, h, hs => by
    unfold Stk.anySp
    by_cases e : k = n
    · subst e; rw [hs]; simp
    · rw [Stk.anySp_of (show k < n by omega) hs]; rfl
theorem Stk.allSet_of {σ : Stk} {f : Nat} : ∀ {n k : Nat}, k < n → σ.isSet (f + k) = false → σ.allSet f n = false
  | n + 1, k, h, hs => by
    unfold Stk.allSet
    by_cases e : k = n
    · subst e; rw [hs]; simp
    · rw [Stk.allSet_of (show k < n by omega) hs]; rfl

theorem zero_any (w : World) : (zeroValue 20).run Try.prog w = .ok .nilIface w := by kernel_rfl

theorem slotV_some (v : AV) : (slotV v).isSome = !v.no := by cases v <;> rfl
theorem slotV_get (v : AV) : (slotV v).getD .nilIface = v.enc := by cases v <;> rfl

theorem small_ok {k : Nat} (hk : k < 16) : intOk (k : Int) := by
  unfold intOk Lit.wf
  simp [IntKind.min, IntKind.max, IntKind.bits, IntKind.signed]
  omega

section
variable {w w' : World} {p mb x : Nat} {σ : Stk} {S : Nat → Prop}
/-- What the map answers at a slot. -/
theorem StkIs.get (h : StkIs w p mb σ) {k : Nat} (hk : k < 16) : (Instr.lookup 82 (.map (some mb)) (.int .i64 (k : Int)) false).run Try.prog w = .ok (σ.slot k).enc w := by
  obtain ⟨m, hm, hg⟩ := h.map
  have hr := run_get int_mkey Try.underlying82 (zero_any w) hm (a := (k : Int)) (small_ok hk) false
  rw [if_neg (by simp), hg k hk, slotV_get] at hr
  exact hr
theorem StkIs.get2 (h : StkIs w p mb σ) {k : Nat} (hk : k < 16) : (Instr.lookup 82 (.map (some mb)) (.int .i64 (k : Int)) true).run Try.prog w = .ok (.tuple #[(σ.slot k).enc, .bool (!(σ.slot k).no)]) w := by
  obtain ⟨m, hm, hg⟩ := h.map
  have hr := run_get int_mkey Try.underlying82 (zero_any w) hm (a := (k : Int)) (small_ok hk) true
  rw [if_pos rfl, hg k hk, slotV_get, slotV_some] at hr
  exact hr
end

theorem stk_read (w : World) (p mb : Nat) (σ : Stk) (h : StkIs w p mb σ) (f n : Nat) (hfn : f + n ≤ 128) :
    Calls Try.prog 42 #[.pointer (some ⟨p, 0, none⟩), .int .i64 (f : Int), .int .i64 (n : Int)] w fun e w' => e = .returned (.tuple #[.string (σ.read f n).1, .int .i64 (σ.read f n).2]) ∧ Below w.heap.size w w' := by
  have H := hide h
  have hm := h.cmap
  clear h
  have HG := hide (fun (k : Nat) (hk : k < n) => H.out.get2 (k := (f + k) / 8) (by omega))
  have HS := hide (fun (k : Nat) (hk : k < n) => H.out.cset (j := f + k) (by omega))
  go_enter Try.func42, Try.ntmps42
  go_wp2_with fail
  go_loopw [13] (fun i wr => ∃ k : Nat, k ≤ n ∧ i = .int .i64 k ∧ σ.anySp f k = false ∧ wr = w) (fun i _ => n - (intOf i).toNat)
  case atStart => exact ⟨0, Nat.zero_le _, rfl, rfl, rfl⟩
  case round =>
    obtain ⟨k, hk, rfl, hno, rfl⟩ := hrel
    by_cases hlt : k < n
    · have hki : (k : Int) < (n : Int) := by omega
      have hg := HG.out k hlt
      rw [show (((f + k) / 8 : Nat) : Int) = ((f : Int) + (k : Int)) / 8 by omega] at hg
      obtain ⟨v, hv⟩ : ∃ v, v = σ.slot ((f + k) / 8) := ⟨_, rfl⟩
      rw [← hv] at hg
      have HV := hide hv
      have HNO := hide hno
      clear hv hno
      cases hn : v.no with
      | true =>
        rw [hn] at hg
        go_wp2_with fail
        exact ⟨⟨k + 1, by omega, by simp, by unfold Stk.anySp; rw [HNO.out, ← HV.out, hn]; rfl, trivial⟩, by simp [intOf]; omega⟩
      | false =>
        rw [hn] at hg
        have hr : σ.read f n = (⟨#[]⟩, 221) := by unfold Stk.read; rw [if_pos (Stk.anySp_of hlt (by rw [← HV.out]; exact hn))]
        have HR := hide hr
        clear hr
        go_wp2_with fail
        go_returns
        exact ⟨by rw [HR.out]; rfl, Below.refl _ _⟩
    · have hkn : k = n := by omega
      subst hkn
      have HNO := hide hno
      clear hno
      go_wp2_with fail
      go_loopw [31] (fun i wr2 => ∃ j : Nat, j ≤ k ∧ i = .int .i64 j ∧ σ.allSet f j = true ∧ wr2 = wr) (fun i _ => k - (intOf i).toNat)
      case atStart => exact ⟨0, Nat.zero_le _, rfl, rfl, rfl⟩
      case round =>
        obtain ⟨j, hj, rfl, hall, rfl⟩ := hrel
        by_cases hlt2 : j < k
        · have hki : (j : Int) < (k : Int) := by omega
          have hc := HS.out j hlt2
          obtain ⟨v, hv⟩ : ∃ v, v = σ.s.getD (f + j) false := ⟨_, rfl⟩
          rw [← hv] at hc
          have HV := hide hv
          have HA := hide hall
          clear hv hall
          cases v with
          | true =>
            go_wp2_with fail
            exact ⟨⟨j + 1, by omega, by simp, by unfold Stk.allSet; rw [HA.out, Stk.isSet, ← HV.out]; rfl, trivial⟩, by simp [intOf]; omega⟩
          | false =>
            have hr : σ.read f k = (⟨#[]⟩, 220) := by
              unfold Stk.read
              rw [if_neg (by rw [HNO.out]; simp), if_neg (by rw [Stk.allSet_of hlt2 (by rw [Stk.isSet, ← HV.out])]; simp)]
            have HR := hide hr
            clear hr
            go_wp2_with fail
            go_returns
            exact ⟨by rw [HR.out]; rfl, Below.refl _ _⟩
        · have hkn : j = k := by omega
          subst hkn
          have hr : σ.read f j = (σ.text f j, 0) := by
            unfold Stk.read
            rw [if_neg (by rw [HNO.out]; simp), if_pos hall]
          have HR := hide hr
          clear hr hall
          have hfn2 : f + j ≤ 128 := hfn
          obtain ⟨T, hT⟩ : ∃ T, T = σ.text f j := ⟨_, rfl⟩
          have hcv : (¬ 128 = f ∧ (convert 68 9 (.slice (some ⟨p, f, none⟩) j (128 - f))).run Try.prog wr = .ok (.string T) wr) ∨ (f = 128 ∧ j = 0 ∧ (convert 68 9 (.slice (some ⟨p, 0, none⟩) 0 0)).run Try.prog wr = .ok (.string T) wr) := by
            have hlen : (List.take j (List.drop f σ.b)).length = j := by rw [List.length_take, List.length_drop, H.out.ok.b]; omega
            by_cases e : 128 = f
            · refine .inr ⟨e.symm, by omega, ?_⟩
              have hj0 : j = 0 := by omega
              subst hj0
              rw [hT]
              exact run_convert_bytes_arg (P := Try.prog) wr 68 5 Try.underlying68 Try.underlying5 p 0 0 0 [] rfl (fun i hi => by omega) 9 Try.underlying9
            · refine .inl ⟨e, ?_⟩
              rw [hT]
              refine run_convert_bytes_arg (P := Try.prog) wr 68 5 Try.underlying68 Try.underlying5 p f j (128 - f) ((σ.b.drop f).take j) hlen (fun i hi => ?_) 9 Try.underlying9
              rw [H.out.cbyte (by omega)]
              congr 2
              rw [List.getD_eq_getElem?_getD, List.getD_eq_getElem?_getD, List.getElem?_take, if_pos hi, List.getElem?_drop]
          have HT := hide hT
          clear hT
          have hsz : (sizeOf (Try.prog.elem 42)).run Try.prog wr = .ok 1 wr := by kernel_rfl
          have hsl := run_sliceAt_array_lh (P := Try.prog) wr 42 ⟨p, 0, none⟩ (by kernel_rfl) .i64 .i64 (f : Int) ((f : Int) + (j : Int)) (by omega) (by omega) (by rw [show Try.prog.arrayLen 42 = 128 by kernel_rfl]; omega)
          rw [hsz, show Try.prog.arrayLen 42 = 128 by kernel_rfl] at hsl
          simp only [Result.andThen, slicedAt, Int.toNat_natCast, show ((f : Int) + (j : Int)).toNat = f + j by omega, Nat.add_sub_cancel_left] at hsl
          rcases hcv with ⟨e, hcv⟩ | ⟨e, e2, hcv⟩
          · rw [if_neg e, show (⟨p, 0, none⟩ : Addr).add (f * 1) = ⟨p, f, none⟩ by rw [Addr.add_mid, Nat.mul_one, Nat.zero_add]] at hsl
            go_wp2_with fail
            go_returns
            exact ⟨by rw [HR.out, ← HT.out]; rfl, Below.refl _ _⟩
          · subst e e2
            simp at hsl
            go_wp2_with fail
            go_returns
            exact ⟨by rw [HR.out, ← HT.out]; rfl, Below.refl _ _⟩

end Go.Proofs.Ytcddpmiandgkjaa
