import Derived.Test.YtmoememioelddaaNameLet
/-! name.Runes, name.May, name.Compare, walked. -/
namespace Go.Proofs.Ytmoememioelddaa
open Go.RowKit
set_option maxHeartbeats 2000000
set_option maxRecDepth 100000

def IntPost (w : World) (q : Int) (e : Ending) (w' : World) : Prop := e = .returned (.int .i64 q) ∧ Below w.heap.size w w'

theorem name_runes (w : World) (s : ByteArray) (hs : s.size ≤ 9223372036854775806) : Calls Try.prog 12 #[.string s] w (IntPost w (runesOf s)) := by
  have wrl : World.iter w s 0 = World.iter w s 0 := rfl
  obtain ⟨R, hR⟩ : ∃ R, runesOf s = R := ⟨_, rfl⟩
  have HR := hide hR
  rw [hR]
  clear hR wrl
  go_enter Try.func12, Try.ntmps12
  go_wp2_with fail
  go_loopw [2] (fun n wr => ∃ (pos f : Nat) (acc : Int), wr.heap[w.heap.size]? = some (.stringIter s pos) ∧ Below w.heap.size w wr ∧ n = .int .i64 acc ∧ 0 ≤ acc ∧ acc ≤ pos ∧ pos ≤ s.size + 4 ∧ cntAt s f pos acc = R ∧ s.size ≤ pos + f) (fun _ wr => s.size - wr.iterPos w.heap.size)
  case atStart => exact ⟨0, s.size, 0, World.iter_heap w s 0, (Below.refl _ _).alloc (Nat.le_refl _) _, rfl, by omega, by omega, by omega, HR.out, by omega⟩
  case round =>
    obtain ⟨pos, f, acc, hit, hB, rfl, ha0, ha1, hps, hcnt, hf⟩ := hrel
    have hsz : w.heap.size < wr.heap.size := (Array.getElem?_eq_some_iff.1 hit).1
    by_cases hp : pos < s.size
    · obtain ⟨f, rfl⟩ : ∃ g, f = g + 1 := ⟨f - 1, by omega⟩
      have hnx : ∀ ty, (Instr.next (.pointer (some ⟨w.heap.size, 0, none⟩)) true ty).run Try.prog wr = _ := fun ty => Lib.run_next_any_at wr w.heap.size s pos ty hit hp
      have hwd := width_pos s pos hp
      have hw4 := width_le s pos
      have hit2 := Lib.iterAt_heap wr w.heap.size s pos (pos + (Utf8.decode s pos).2) hit
      have hB2 := Lib.below_iterAt hB (k := w.heap.size) (Nat.le_refl _) s (pos + (Utf8.decode s pos).2)
      have hstep := cntAt_step s f pos acc hp
      rw [hcnt] at hstep
      have HS := hide hstep
      have HI := hide hit2
      have HB2 := hide hB2
      have PR := hide (prefix_bad s pos hp)
      have hit := hide hit
      clear hcnt hstep hit2 hB2
      have hle : (0 : Int) ≤ (pos : Int) := by omega
      have hle2 : (pos : Int) ≤ (s.size : Int) := by omega
      by_cases hr : (Utf8.decode s pos).1 = 65533
      · have d0 : (((Utf8.decode s pos).1 : Int) == 65533) = true := by rw [hr]; rfl
        cases hbad : badAt s pos with
        | true =>
          have hp1 : Lib.hasPrefix (s.extract pos s.size).data.toList [239, 191, 189] = false := by rw [PR.out hr, hbad]; rfl
          have C := hide (fun w => hp1 ▸ Try.strings_HasPrefix (s.extract pos s.size) ⟨#[239, 191, 189]⟩ w)
          have HH := hide (And.intro hr hbad)
          clear hp1 hr hbad
          go_wp2_with fail
          refine (C.out _).mono ?_
          rintro e w2 ⟨rfl, rfl⟩
          go_wp2_with fail
          go_ret
          refine ⟨?_, HB2.out⟩
          rw [HS.out, HH.out.2]
          rfl
        | false =>
          have hp1 : Lib.hasPrefix (s.extract pos s.size).data.toList [239, 191, 189] = true := by rw [PR.out hr, hbad]; rfl
          have C := hide (fun w => hp1 ▸ Try.strings_HasPrefix (s.extract pos s.size) ⟨#[239, 191, 189]⟩ w)
          have HH := hide (And.intro hr hbad)
          clear hp1 hr hbad
          go_wp2_with fail
          refine (C.out _).mono ?_
          rintro e w2 ⟨rfl, rfl⟩
          go_wp2_with fail
          go_roundw
          case rel =>
            refine ⟨pos + (Utf8.decode s pos).2, f, acc + 1, HI.out, HB2.out, by go_num, by omega, by omega, by omega, ?_, by omega⟩
            rw [HS.out, HH.out.2]
            rfl
          case measure =>
            simp only [World.iterPos, HI.out, hit.out]
            omega
      · have d0 : (((Utf8.decode s pos).1 : Int) == 65533) = false := by simp; omega
        have HH : Hid (badAt s pos = false) := by
          apply hide
          unfold badAt
          simp [hr]
        clear hr
        go_wp2_with fail
        go_roundw
        case rel =>
          refine ⟨pos + (Utf8.decode s pos).2, f, acc + 1, HI.out, HB2.out, by go_num, by omega, by omega, by omega, ?_, by omega⟩
          rw [HS.out, HH.out]
          rfl
        case measure =>
          simp only [World.iterPos, HI.out, hit.out]
          omega
    · have hnx : ∀ ty, (Instr.next (.pointer (some ⟨w.heap.size, 0, none⟩)) true ty).run Try.prog wr = _ := fun ty => Lib.run_next_end_at wr w.heap.size s pos ty hit hp
      have HC := hide hcnt
      clear hcnt hit
      go_wp2_with fail
      go_ret
      refine ⟨?_, hB⟩
      rw [← HC.out, cntAt_end s f pos acc hp]
      rfl

end Go.Proofs.Ytmoememioelddaa
