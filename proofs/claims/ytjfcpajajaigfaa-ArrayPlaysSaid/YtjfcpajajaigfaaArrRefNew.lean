import Derived.Test.YtjfcpajajaigfaaArrPure
import Derived.Deep.AppendLies
import Derived.Deep.RegionLaw
/-! The document's answer of stage 19: its array, made. -/
namespace Go.Proofs.Ytjfcpajajaigfaa
open Go.RowKit Go.Maps Go.Lib
set_option maxHeartbeats 1000000
set_option maxRecDepth 100000

theorem one_cell {w : World} {b : Nat} {u : Value} (h : w.cell? ⟨b, 0, none⟩ = some u) : ∀ j v, [u][j]? = some v → w.cell? ((⟨b, 0, none⟩ : Addr).add j) = some v := by
  intro j v hv
  have hadd : (⟨b, 0, none⟩ : Addr).add j = ⟨b, j, none⟩ := by unfold Addr.add; split <;> simp_all
  rw [hadd]
  cases j with
  | zero => simp at hv; rw [← hv]; exact h
  | succ j => simp at hv

theorem grown_has {wr w3 : World} {x : Nat} {t e : TypeId} {v : Value} {n : Nat} {xs : List Value} {o1 o2 : Obj} (h : Has wr x t #[v]) (ho : wr.ownsRow (x + 1) e 1 v n xs) (hg : ((wr.alloc o1).alloc o2).drew.grownBy w3 v.ownBlock) :
    w3.cell? ⟨x, 0, none⟩ = some v ∧ w3.frozen? ⟨x, 0, none⟩ = false ∧ Has w3 x t #[v] := by
  have h3 : Has w3 x t #[v] := by
    have h2 : Has ((wr.alloc o1).alloc o2).drew x t #[v] := (h.alloc o1).alloc o2
    exact (hg.block x h2.lt (fun e => by have := (ho.lt x e.symm).1; omega)).trans h2
  exact ⟨by rw [h3.cell]; rfl, h3.free 0, h3⟩

theorem ref_new (w : World) (size n : Int) (h0 : 1 ≤ size) (h1 : size ≤ 128) (h2 : 1 ≤ n) (h3 : n ≤ 256) :
    Calls Try.prog 10 #[.int .i64 size, .int .i64 n] w fun e w' => ∃ x g, e = .returned (.pointer (some ⟨x, 0, none⟩)) ∧ RefIs w' x g (List.replicate n.toNat (strOfNums (List.replicate size.toNat 0))) ∧ w.heap.size ≤ x ∧ w.heap.size ≤ g ∧ Below w.heap.size w w' := by
  obtain ⟨i0, hi, hz0, hz1, hz2⟩ := info_parts (P := Try.prog) (e := 9) (z := .string ByteArray.empty) (size := 1) (bytes := 16) (by kernel_rfl)
  have D0 : decide (size < 1) = false := decide_eq_false (by omega)
  have D1 : decide (128 < size) = false := decide_eq_false (by omega)
  have D2 : decide (n < 1) = false := decide_eq_false (by omega)
  have D3 : decide (256 < n) = false := decide_eq_false (by omega)
  go_enter Try.func10, Try.ntmps10
  obtain ⟨j0, hj, hy0, hy1, hy2⟩ := info_parts (P := Try.prog) (e := 5) (z := .int .u8 0) (size := 1) (bytes := 1) (by kernel_rfl)
  have hmk : ∀ w : World, (Instr.makeSlice 72 (.int .i64 size) (.int .i64 size)).run Try.prog w = .ok (.slice (some ⟨w.heap.size, 0, none⟩) size.toNat size.toNat) (w.alloc (.cells (List.replicate size.toNat (Value.int .u8 0)).toArray 5)) := by
    intro w
    rw [run_make w _ _ j0 (.int .u8 0) Try.underlying72 hj hy0 .i64 .i64 size size (by omega) (Int.le_refl _) (by rw [hy2]; omega) (by omega), hy1]
    congr 3
    apply Array.ext_getElem?
    intro i
    have e : ∀ x : Nat, [Value.int .u8 0][x % 1]?.getD default = Value.int .u8 0 := fun x => by rw [Nat.mod_one]; rfl
    by_cases hi : i < size.toNat
    · simp [madeCells, Value.cells, hi, e]
    · simp [madeCells, Value.cells, hi, e]
  have hcv : ∀ w : World, (convert 72 9 (.slice (some ⟨w.heap.size, 0, none⟩) size.toNat size.toNat)).run Try.prog (w.alloc (.cells (List.replicate size.toNat (Value.int .u8 0)).toArray 5)) = .ok (.string (strOfNums (List.replicate size.toNat 0))) (w.alloc (.cells (List.replicate size.toNat (Value.int .u8 0)).toArray 5)) := by
    intro w
    refine run_convert_bytes_arg (P := Try.prog) _ 72 5 Try.underlying72 Try.underlying5 w.heap.size 0 size.toNat size.toNat (List.replicate size.toNat 0) (by simp) ?_ 9 Try.underlying9
    intro i hi
    rw [(Has.new w 5 _).cell]
    simp [hi]
  obtain ⟨T, hT⟩ : ∃ T, T = strOfNums (List.replicate size.toNat 0) := ⟨_, rfl⟩
  obtain ⟨zs, hzs⟩ : ∃ zs, zs = (List.replicate size.toNat (Value.int .u8 0)).toArray := ⟨_, rfl⟩
  rw [← hT, ← hzs] at hcv
  rw [← hzs] at hmk
  rw [← hT]
  clear hT hzs hj hy0 hy1 hy2
  go_wp2_with fail
  go_loopw [6] (fun i wr => ∃ (k : Nat) (v : Value), (k : Int) ≤ n ∧ i = .int .i64 k ∧ Has wr w.heap.size 45 #[v] ∧ wr.ownsRow (w.heap.size + 1) 9 1 v k (List.replicate k (.string T)) ∧ Below w.heap.size w wr)
    (fun i _ => n.toNat - (intOf i).toNat)
  case atStart => exact ⟨0, .slice none 0 0, by omega, rfl, Has.new _ _ _, World.ownsRow_nil _ _ _ _, (Below.refl _ w).alloc (Nat.le_refl _) _⟩
  case round =>
    obtain ⟨k, v, hk, rfl, hH, hown, hnx⟩ := hrel
    have hsize := hnx.size
    have hlt0 := hH.lt
    have c0 := hH.cell 0
    simp at c0
    have f0 := hH.free 0
    have HH := hide hH
    clear hH
    by_cases hlt : (k : Int) < n
    · have hcvd : (convert 72 9 (.slice (some ⟨wr.heap.size, 0, none⟩) size.toNat size.toNat)).run Try.prog (wr.alloc (.cells zs 5)).drew = .ok (.string T) (wr.alloc (.cells zs 5)).drew := hcv wr.drew
      have hown2 : ((wr.alloc (.cells zs 5)).alloc (.cells #[.string T] 9)).drew.ownsRow (w.heap.size + 1) 9 1 v k (List.replicate k (.string T)) := (hown.alloc _).alloc _
      have hcell2 : ((wr.alloc (.cells zs 5)).alloc (.cells #[.string T] 9)).drew.cell? ⟨wr.heap.size + 1, 0, none⟩ = some (.string T) := by
        simp
      clear hcv
      go_wp2_with fail
      go_region_law (refine step_append_lies _ rfl (.tmp 32) (.tmp 36) 43 rfl (w.heap.size + 1) 9 i0 (.string ByteArray.empty) 1 16 Try.underlying43 hi hz0 hz1 hz2 rfl (by decide) v k (List.replicate k (.string T)) (by simp [Act.eval]) hown2 ⟨wr.heap.size + 1, 0, none⟩ 1 1 [.string T] (by simp [Act.eval]) rfl (one_cell hcell2) (fun x hx => by simp at hx; subst hx; rfl) (by decide) (by unfold maxLen; omega) (by omega) (by simp; omega) _ rfl ?_; intro g cap w3 hown' hgrow3 hat3 hlt3; have hH3 := grown_has HH.out hown hgrow3; have c3 := hH3.1; have f3 := hH3.2.1; have HH3 := hide hH3.2.2; clear hH3)
      all_goals
        go_wp2_with fail
        have hw : IntKind.i64.wrap ((k : Int) + 1) = (k : Int) + 1 := wrap_i64 (by omega) (by omega)
        go_roundw
        case rel =>
          have hg1 := (hown'.lt g rfl).1
          refine ⟨k + 1, .slice (some ⟨g, 0, none⟩) (k + 1) cap, by omega, by simp, by simpa using HH3.out.set 0 (.slice (some ⟨g, 0, none⟩) (k + 1) cap), ?_, ?_⟩
          · rw [List.replicate_succ']
            exact hown'.kept (grownBy_setCell w3 w.heap.size 0 _) (Or.inr (by simp [Value.ownBlock]; omega))
          · refine Below.setCell (p := ⟨w.heap.size, 0, none⟩) ?_ (Nat.le_refl w.heap.size) _
            exact (((hnx.alloc hsize _).alloc (by simp; omega) _).drew).grown hgrow3 (by simp; omega) (fun q hq => by have := (hown.lt q hq).1; omega)
        case measure => simp [intOf]; omega
    · go_wp2_with fail
      go_ret
      obtain ⟨g, cap, rfl, hg0, hg1⟩ := hown.form (by omega)
      have hk2 : k = n.toNat := by omega
      subst hk2
      refine ⟨w.heap.size, rfl, g, ?_, Nat.le_refl _, by omega, hnx⟩
      rcases hown.2 with ⟨h0, _⟩ | ⟨g', cap', cur, hv, _, hgc, hle, hm, hcs, htk⟩
      · cases h0
      · cases hv
        refine ⟨cap, cur, by rw [List.length_replicate]; exact HH.out, hgc, ?_, by rw [List.length_replicate]; exact hle, hm, by omega⟩
        rw [List.length_replicate, List.map_replicate]
        simpa using htk

end Go.Proofs.Ytjfcpajajaigfaa
