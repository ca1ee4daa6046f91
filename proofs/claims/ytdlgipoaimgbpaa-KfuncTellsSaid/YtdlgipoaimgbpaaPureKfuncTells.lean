import Derived.Test.YtdlgipoaimgbpaaHKfuncTellsx3
/-! The plain proof of the law KfuncTells. -/
namespace Go.Proofs.Ytdlgipoaimgbpaa.Pure
open Go.RowKit Go.Proofs.Ytdlgipoaimgbpaa.HKfuncTells Go.Proofs.YtdlgipoaimgbpaaW.PrintWords Go.Proofs.YtdlgipoaimgbpaaW.PrintLast
set_option maxRecDepth 100000
set_option maxHeartbeats 4000000

theorem wrap64_at {x : Int} (h0 : -9223372036854775808 ≤ x) (h1 : x ≤ 9223372036854775807) : wrap64 x = x := by unfold wrap64; omega

theorem takes_l0 (l : List Int) (hl : l.length ≤ 256) (g : Int) (p q : Bool) : ∀ (d i k : Nat), i + d = l.length → d < k →
    wardenref25_Takes.l0 k (i : Int) l g p q = some (match (l.drop i).findIdx? kTakes with | some j => (((i + j : Nat) : Int), true) | none => (0, false)) := by
  intro d
  induction d with
  | zero =>
    intro i k h hk
    obtain ⟨k, rfl⟩ : ∃ m, k = m + 1 := ⟨k - 1, by omega⟩
    simp only [wardenref25_Takes.l0]
    rw [if_neg (by omega), List.drop_of_length_le (by omega)]
    rfl
  | succ d ih =>
    intro i k h hk
    obtain ⟨k, rfl⟩ : ∃ m, k = m + 1 := ⟨k - 1, by omega⟩
    have hi : i < l.length := by omega
    have hr : rd l (i : Int) = l[i] := by
      simp [rd, hi]
    have ih' := ih (i + 1) k (by omega) (by omega)
    rw [show (((i + 1 : Nat)) : Int) = (i : Int) + 1 by omega] at ih'
    have hd : l.drop i = l[i] :: l.drop (i + 1) := (List.drop_eq_getElem_cons hi)
    simp only [wardenref25_Takes.l0]
    rw [if_pos (by omega), if_pos (by omega), hr, hd, List.findIdx?_cons, wrap64_at (by omega) (by omega), ih']
    unfold kTakes
    generalize l[i] = x
    by_cases h4 : x = 4
    · subst h4; simp
    by_cases h7 : x = 7
    · subst h7; simp
    by_cases h10 : x = 10
    · subst h10; simp
    by_cases h12 : x = 12
    · subst h12; simp
    rw [if_neg h4, if_neg h7, if_neg h10, if_neg h12]
    have e : (x == 4 || x == 7 || x == 10 || x == 12) = false := by simp [h4, h7, h10, h12]
    rw [e]
    simp only [Bool.false_eq_true, if_false]
    cases (l.drop (i + 1)).findIdx? (fun a => a == 4 || a == 7 || a == 10 || a == 12) with
    | none => rfl
    | some j => simp only [Option.map_some]; congr 3; omega

theorem takes_same (l : List Int) (hl : l.length ≤ 256) (g : Int) (p q : Bool) (k : Nat) (hk : 256 < k) : wardenref25_Takes.f k l g p q = kfunc_Takes.f l g p q := by
  unfold wardenref25_Takes.f kfunc_Takes.f kIdx
  have h := takes_l0 l hl g p q l.length 0 k (by omega) (by omega)
  rw [show (((0 : Nat)) : Int) = 0 from rfl, List.drop_zero] at h
  rw [h]
  cases l.findIdx? kTakes with
  | none => rfl
  | some j =>
    simp only []
    rw [show max ((j : Nat) : Int) 0 = ((0 + j : Nat) : Int) by omega, decide_eq_true (show ((j : Nat) : Int) ≥ 0 by omega)]

theorem same_l0 (l : List Int) (hl : l.length ≤ 256) (g : Int) (p q : Bool) : ∀ (d i k : Nat), i + d = l.length → d < k → wardenref25_Same.l0 k (i : Int) l g p q l g p q = some true := by
  intro d
  induction d with
  | zero =>
    intro i k h hk
    obtain ⟨k, rfl⟩ : ∃ m, k = m + 1 := ⟨k - 1, by omega⟩
    simp only [wardenref25_Same.l0]
    rw [if_neg (by omega)]
  | succ d ih =>
    intro i k h hk
    obtain ⟨k, rfl⟩ : ∃ m, k = m + 1 := ⟨k - 1, by omega⟩
    simp only [wardenref25_Same.l0]
    rw [if_pos (by omega), if_pos (by omega), if_pos (by omega), if_pos trivial, wrap64_at (by omega) (by omega)]
    exact ih (i + 1) k (by omega) (by omega)

theorem same_refl (l : List Int) (hl : l.length ≤ 256) (g : Int) (p q : Bool) (k : Nat) (hk : 258 < k) : wardenref25_Same.f k l g p q l g p q = some true := by
  obtain ⟨k, rfl⟩ : ∃ m, k = m + 1 := ⟨k - 1, by omega⟩
  unfold wardenref25_Same.f
  rw [if_pos rfl, if_pos rfl, if_neg (by cases p <;> simp)]
  have e : (q != q) = false := by cases q <;> rfl
  rw [e]
  simp only [wardenref25_Same.j0]
  rw [if_neg (by simp)]
  exact same_l0 l hl g p q l.length 0 k (by omega) (by omega)

def nm18 : List ByteArray := wardenref25_names.f.getD []

theorem nm18_is : wardenref25_names.f = some nm18 := by kernel_rfl

theorem nm18_len : nm18.length = 18 := by decide

theorem nm18_at : ∀ i, i < 17 → rdOf ByteArray.empty nm18 ((i : Nat) + 1 : Int) = (kfOf i).name := by decide +kernel

theorem bytes_eq {a b : ByteArray} (h : a.toList = b.toList) : a = b := by
  rw [ByteArray.toList_eq, ByteArray.toList_eq] at h
  obtain ⟨⟨a⟩⟩ := a
  obtain ⟨⟨b⟩⟩ := b
  simp at h
  rw [h]

theorem named_l0 (nm : ByteArray) : ∀ (d i k : Nat), i + d = 17 → d < k → (∀ j, j < i → (kfOf j).name ≠ nm) →
    wardenref25_Named.l0 k nm nm18 ((i : Nat) + 1 : Int) = some (kNamed nm, decide (kNamed nm ≠ 0)) := by
  intro d
  induction d with
  | zero =>
    intro i k h hk hno
    obtain ⟨k, rfl⟩ : ∃ m, k = m + 1 := ⟨k - 1, by omega⟩
    simp only [wardenref25_Named.l0]
    rw [nm18_len, if_neg (by omega), kNamed_none (fun j hj => hno j (by omega))]
    rfl
  | succ d ih =>
    intro i k h hk hno
    obtain ⟨k, rfl⟩ : ∃ m, k = m + 1 := ⟨k - 1, by omega⟩
    simp only [wardenref25_Named.l0]
    rw [nm18_len, if_pos (by omega), if_pos (by omega), nm18_at i (by omega)]
    by_cases he : (kfOf i).name = nm
    · rw [if_pos (by rw [he]), kNamed_some (k := i) (by omega) hno he, decide_eq_true (by omega)]
      congr 2
      unfold wrap32
      omega
    · rw [if_neg (fun h => he (bytes_eq h)), wrap64_at (by omega) (by omega)]
      have := ih (i + 1) k (by omega) (by omega) (fun j hj => by
        rcases Nat.lt_or_ge j i with h | h
        · exact hno j h
        · obtain rfl : j = i := by omega
          exact he)
      rw [show (((i + 1 : Nat)) : Int) = (i : Int) + 1 by omega] at this
      exact this

theorem named_same (nm : ByteArray) (k : Nat) (hk : 17 < k) : wardenref25_Named.f k nm = kfunc_Named.f nm := by
  unfold wardenref25_Named.f kfunc_Named.f
  rw [nm18_is]
  exact named_l0 nm 17 0 k rfl hk (fun j hj => by omega)

theorem name_same (id : Int) : wardenref25_Name.f id = kfunc_Name.f id := by
  unfold wardenref25_Name.f kfunc_Name.f
  by_cases h1 : id < 1
  · rw [if_pos h1, kfK, if_neg (by omega)]
    rfl
  · by_cases h2 : id > 17
    · rw [if_neg h1, if_pos h2, kfK, if_neg (by omega)]
      rfl
    · rw [if_neg h1, if_neg h2, nm18_is, Option.bind_some, nm18_len, if_pos (by omega), if_pos (by omega)]
      obtain ⟨i, hi, rfl⟩ : ∃ i : Nat, i < 17 ∧ id = (i : Int) + 1 := ⟨(id - 1).toNat, by omega, by omega⟩
      rw [nm18_at i hi, kfK, if_pos (by omega)]
      congr 3
      omega

theorem tells_alive : wardenlaw25_alive.f = some true := by decide +kernel

theorem tells (id : Int) (nm : ByteArray) (l : List Int) (g : Int) (p q : Bool) : wardenlaw25_KfuncTells.f 300 id nm l g p q = some true := by
  have big : wardenlaw25_KfuncTells.j0 300 id nm true l g p q = some true := by
    simp only [wardenlaw25_KfuncTells.j0]
    rw [if_pos trivial, tells_alive]
    rfl
  unfold wardenlaw25_KfuncTells.f
  by_cases h1 : (nm.size : Int) > 1024
  · rw [if_pos h1]; exact big
  · rw [if_neg h1]
    by_cases h2 : (l.length : Int) > 256
    · rw [decide_eq_true h2]; exact big
    · rw [decide_eq_false h2]
      simp only [wardenlaw25_KfuncTells.j0]
      rw [if_neg (by simp), named_same nm 299 (by omega), takes_same l (by omega) g p q 299 (by omega), name_same, tells_alive]
      have ho : wardenref25_Of.f id = kfunc_Of.f id := rfl
      rw [ho]
      unfold kfunc_Of.f kfunc_Named.f kfunc_Takes.f kfunc_Name.f
      simp only [Option.bind_some]
      rw [same_refl _ (by
        have : ∀ i, i < 17 → (kfOf i).args.length ≤ 256 := by decide
        unfold kfK
        split
        · exact this _ (by omega)
        · decide) _ _ _ 299 (by omega)]
      simp

end Go.Proofs.Ytdlgipoaimgbpaa.Pure
