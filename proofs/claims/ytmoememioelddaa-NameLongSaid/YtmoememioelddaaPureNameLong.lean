/- NameLong in plain Lean: how many runes a name may have. -/
import Derived.Test.YtmoememioelddaaHNameLongx1
import Derived.Test.YtmoememioelddaaNameText
import Derived.Test.YtmoememioelddaaWf
import Derived.Test.YtmoememioelddaaNameFields
import Derived.Test.YtmoememioelddaaNameWords
namespace Go.Proofs.Ytmoememioelddaa.Pure
open Go.RowKit Go.Proofs.Ytmoememioelddaa.HNameLong Go.Proofs.YtmoememioelddaaW.PrintWords Go.Proofs.YtmoememioelddaaW.PrintLast

theorem alive_true : wardenlaw09_alive.f = some true := by decide +kernel

theorem may_same (n c : Nat) (hl : isLetter (c : Int) = true) : mayR (List.replicate n c) = (decide (1 ≤ n) && decide (n ≤ 32)) := by
  cases n with
  | zero => rfl
  | succ n =>
    rw [List.replicate_succ]
    show (decide ((List.replicate n c).length < 32) && isLetter (c : Int) && (List.replicate n c).all wordRune) = _
    have hw : wordRune c = true := by unfold wordRune; rw [hl]; rfl
    have ha : (List.replicate n c).all wordRune = true := by
      rw [List.all_eq_true]
      intro x hx
      rw [(List.mem_replicate.1 hx).2]
      exact hw
    rw [List.length_replicate, hl, ha, Bool.and_true, Bool.and_true, decide_eq_true (show 1 ≤ n + 1 by omega), Bool.true_and, decide_eq_decide]
    omega

theorem fields_same (c : Nat) (hl : isLetter (c : Int) = true) : ∀ (n : Nat) (cur : List Nat), fieldsR cur (List.replicate n c) = if cur ++ List.replicate n c = [] then [] else [cur ++ List.replicate n c] := by
  have hw : noWord c = false := by unfold noWord; rw [hl]; rfl
  intro n
  induction n with
  | zero =>
    intro cur
    simp only [List.replicate_zero, List.append_nil]
    rfl
  | succ n ih =>
    intro cur
    rw [List.replicate_succ]
    show (if noWord c then _ else fieldsR (cur ++ [c]) (List.replicate n c)) = _
    rw [hw, if_neg (by decide), ih]
    simp

theorem loop_long (x : ByteArray) (c : Nat) (hx : x = bytesR [c]) (hv : validN c = true) (hl : isLetter (c : Int) = true) (N : Nat) (hN : N ≤ 200) :
    ∀ n i, N - i = n → i ≤ N → Ev (fun k => wardenlaw09_NameLong.l0 k x (N : Int) (bytesR (List.replicate i c)) (i : Int)) true := by
  have hsz : ∀ i, (bytesR (List.replicate i c)).size ≤ 4 * i := fun i => by
    rw [bytesR_size]
    induction i with
    | zero => simp
    | succ i ih =>
      rw [List.replicate_succ, List.flatMap_cons, List.length_append]
      have : (encL c).length ≤ 4 := by
        unfold encL
        repeat' split
        all_goals simp
      omega
  have hxs : x.size ≤ 4 := by
    have := hsz 1
    rw [hx]
    exact this
  intro n
  induction n with
  | zero =>
    intro i hn hi
    obtain rfl : i = N := by omega
    have ht : Text (bytesR (List.replicate i c)) 0 (List.replicate i c) := text_bytesR fun d hd => by rw [(List.mem_replicate.1 hd).2]; exact hv
    have hs := hsz i
    have h1 : name_May.f (bytesR (List.replicate i c)) = some (mayR (List.replicate i c)) := by rw [← may_text ht]; exact if_pos (by omega)
    have h2 : name_Runes.f (bytesR (List.replicate i c)) = some (i : Int) := by
      have := runes_text ht
      rw [List.length_replicate] at this
      rw [← this]
      exact if_pos (by omega)
    have h3 : name_Words.f (bytesR (List.replicate i c)) = some (((fieldsR [] (List.replicate i c)).filter mayR).map bytesR) := by rw [← words_text ht]; exact if_pos (by omega)
    refine ⟨1, fun k hk => ?_⟩
    obtain ⟨k, rfl⟩ : ∃ m, k = m + 1 := ⟨k - 1, by omega⟩
    simp only [wardenlaw09_NameLong.l0]
    rw [if_neg (by omega), h1, h2, h3, alive_true, may_same i c hl]
    simp only [Option.bind_some, if_true]
    rw [fields_same c hl i [], List.nil_append]
    by_cases e1 : 1 ≤ i
    · have hf : (if List.replicate i c = [] then ([] : List (List Nat)) else [List.replicate i c]) = [List.replicate i c] := if_neg (by
        intro h
        have := congrArg List.length h
        simp at this
        omega)
      have e2 : (decide (i ≤ 32) == decide ((i : Int) ≤ 32)) = true := by
        rw [beq_iff_eq, decide_eq_decide]
        omega
      rw [hf, List.filter_cons, may_same i c hl, if_pos (show (i : Int) ≥ 1 by omega), decide_eq_true e1, Bool.true_and, e2, if_pos rfl]
      by_cases e3 : i ≤ 32
      · rw [decide_eq_true e3, decide_eq_true (show (i : Int) ≤ 32 by omega)]
        rfl
      · rw [decide_eq_false e3, decide_eq_false (show ¬ (i : Int) ≤ 32 by omega)]
        rfl
    · obtain rfl : i = 0 := by omega
      rfl
  | succ n ih =>
    intro i hn hi
    have hs := hsz i
    refine Ev.step (f := fun k => wardenlaw09_NameLong.l0 k x (N : Int) (bytesR (List.replicate (i + 1) c)) ((i + 1 : Nat) : Int)) (fun k => ?_) (ih (i + 1) (by omega) (by omega))
    simp only [wardenlaw09_NameLong.l0]
    rw [if_pos (by omega), if_pos (by omega), hx, bytesR_append, show List.replicate i c ++ [c] = List.replicate (i + 1) c by rw [List.replicate_succ'], show wrap64 ((i : Int) + 1) = ((i + 1 : Nat) : Int) by unfold wrap64; omega]

theorem NameLong : wardenlaw09_NameLong.Pure := by
  intro over which ho hw
  have ho := wf_i8 ho
  have hw := wf_u8 hw
  obtain ⟨N, hN⟩ : ∃ N : Nat, mx (wrap64 (32 + wrap64 over)) 0 = (N : Int) := ⟨(mx (wrap64 (32 + wrap64 over)) 0).toNat, by unfold mx wrap64; omega⟩
  have hN2 : N ≤ 200 := by unfold mx wrap64 at hN; omega
  have hr : Int.tmod which 5 = which % 5 := Int.tmod_eq_emod_of_nonneg hw.1
  have h0 : ∀ (x : ByteArray) (c : Nat), x = bytesR [c] → validN c = true → isLetter (c : Int) = true → Ev (fun k => wardenlaw09_NameLong.l0 k x (N : Int) (⟨#[]⟩ : ByteArray) 0) true := fun x c h1 h2 h3 =>
    loop_long x c h1 h2 h3 N hN2 _ 0 rfl (by omega)
  unfold wardenlaw09_NameLong.f
  simp only [Option.bind_some]
  rw [hN, hr]
  have hlen : (which % 5 : Int) < (5 : Int) := Int.emod_lt_of_pos _ (by decide)
  have h00 : 0 ≤ which % 5 := Int.emod_nonneg _ (by decide)
  refine Ev.rounds (g := fun k => _) ?_
  obtain ⟨q, hq⟩ : ∃ q, which % 5 = q := ⟨_, rfl⟩
  rw [hq] at hlen h00 ⊢
  rcases (show q = 0 ∨ q = 1 ∨ q = 2 ∨ q = 3 ∨ q = 4 by omega) with rfl | rfl | rfl | rfl | rfl
  · exact h0 (⟨#[97]⟩ : ByteArray) 97 (by decide +kernel) (by decide) (by decide +kernel)
  · exact h0 (⟨#[95]⟩ : ByteArray) 95 (by decide +kernel) (by decide) (by decide +kernel)
  · exact h0 (⟨#[195, 169]⟩ : ByteArray) 233 (by decide +kernel) (by decide) (by decide +kernel)
  · exact h0 (⟨#[228, 184, 128]⟩ : ByteArray) 19968 (by decide +kernel) (by decide) (by decide +kernel)
  · exact h0 (⟨#[240, 159, 152, 128]⟩ : ByteArray) 128512 (by decide +kernel) (by decide) (by decide +kernel)

end Go.Proofs.Ytmoememioelddaa.Pure
