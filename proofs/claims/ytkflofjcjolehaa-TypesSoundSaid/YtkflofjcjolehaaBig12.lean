/- Types: lemmas on what the functions that the laws reach answer. No conditions of their own beyond those that each theorem states. -/
import Derived.Test.YtkflofjcjolehaaBig7
import Derived.Test.YtkflofjcjolehaaBig5
import Derived.Test.YtkflofjcjolehaaBig11
import Derived.Test.YtkflofjcjolehaaBig6
/-! Types: what bytes are read as; rows of one's own, converted. -/
namespace Go.Proofs.Ytkflofjcjolehaa
open Go.RowKit Go.Proofs.YtkflofjcjolehaaW.PrintWords
set_option maxHeartbeats 4000000
set_option maxRecDepth 100000
set_option linter.unusedSimpArgs false
set_option linter.unusedVariables false

/-- What is left to be read, and whether it was too short. -/
structure DSt where
  s : ByteArray
  bad : Bool
def dTake (n : Int) (x : DSt) : ByteArray × DSt := if (x.bad || decide (n > x.s.size)) = true then (⟨#[]⟩, ⟨x.s, true⟩) else (x.s.extract 0 n.toNat, ⟨x.s.extract n.toNat x.s.size, false⟩)
def dNum (x : DSt) : Int × DSt := if (x.bad || decide (1 > x.s.size)) = true then (0, ⟨x.s, true⟩) else (bt x.s 0, ⟨x.s.extract 1 x.s.size, false⟩)
def dText (x : DSt) : ByteArray × DSt := dTake (dNum x).1 (dNum x).2
def dField (x : DSt) : Fl × DSt :=
  let a := dText x; let b := dNum a.2; let c := dNum b.2; let d := dNum c.2; let e := dNum d.2
  (⟨a.1, b.1, c.1, d.1, e.1⟩, e.2)
def dFields : Nat → DSt → List Fl → List Fl × DSt
  | 0, x, acc => (acc, x)
  | k + 1, x, acc => if x.bad = true then (acc, x) else dFields k (dField x).2 (acc ++ [(dField x).1])
def dType (x : DSt) : Tp × DSt :=
  let a := dText x; let b := dNum a.2; let c := dNum b.2; let d := dFields c.1.toNat c.2 []
  (⟨a.1, b.1, d.1⟩, d.2)
def dTypes : Nat → DSt → List Tp → List Tp × DSt
  | 0, x, acc => (acc, x)
  | k + 1, x, acc => if x.bad = true then (acc, x) else dTypes k (dType x).2 (acc ++ [(dType x).1])
def decodeF (s : ByteArray) : List Tp × Int :=
  let n := dNum ⟨s, false⟩
  let r := dTypes n.1.toNat n.2 []
  if (r.2.bad || !(r.2.s.toList == [])) = true then ([], 8) else (r.1, 0)

theorem R_map {α β : Type} {d : Kd α} {d' : Kd β} (f : α → β) (hs : d.sz = d'.sz) (h : ∀ w base ok x cs, d.M w base ok x cs → d'.M w base ok (f x) cs) {e : Nat} {w : World} {base : Nat} {ok : Nat → Prop} {v : Value} {xs : List α} (hr : d.R e w base ok v xs) : d'.R e w base ok v (xs.map f) := by
  obtain ⟨h0, cs, hown, hrep⟩ := hr
  refine ⟨h0, cs, by rw [List.length_map, ← hs]; exact hown, by rw [List.length_map, ← hs]; exact hrep.1, fun j p hj => ?_⟩
  rw [List.getElem?_map] at hj
  obtain ⟨x, hx, rfl⟩ := Option.map_eq_some_iff.1 hj
  rw [← hs]
  exact h _ _ _ _ _ (hrep.2 j x hx)
end Go.Proofs.Ytkflofjcjolehaa

/-! Types: take, num, text: the closures that Decode makes. -/
namespace Go.Proofs.Ytkflofjcjolehaa
open Go.RowKit Go.Proofs.YtkflofjcjolehaaW.PrintWords
set_option maxHeartbeats 4000000
set_option maxRecDepth 100000
set_option linter.unusedSimpArgs false
set_option linter.unusedVariables false

def SB (b : Nat) (k : Nat) : Prop := k = b ∨ k = b + 1
/-- What is left to be read, as memory holds it. -/
structure DHas (w : World) (b : Nat) (x : DSt) : Prop where
  s : Has w b 9 #[.string x.s]
  bad : Has w (b + 1) 4 #[.bool x.bad]

theorem take_1 (w : World) (b : Nat) (x : DSt) (n : Int) (h0 : 0 ≤ n) (hx : DHas w b x) :
    Calls Try.prog 32 #[.int .i64 n, .pointer (some ⟨b + 1, 0, none⟩), .pointer (some ⟨b, 0, none⟩)] w fun e w' => e = .returned (.string (dTake n x).1) ∧ DHas w' b (dTake n x).2 ∧ Turned (SB b) w w' := by
  obtain ⟨hs, hb⟩ := hx
  obtain ⟨s, bad⟩ := x
  have c0 := hs.cell 0
  have c1 := hb.cell 0
  have f0 := hs.free 0
  have f1 := hb.free 0
  simp at c0 c1
  have hne : b ≠ b + 1 := by omega
  have hne' : b + 1 ≠ b := by omega
  have HS := hide hs
  have HB := hide hb
  clear hs hb
  unfold dTake
  simp only []
  cases bad with
  | true =>
    rw [Bool.true_or, if_pos rfl]
    go_enter Try.func32, Try.ntmps32
    go_wp2_with fail
    go_ret
    exact ⟨rfl, ⟨HS.out.far hne _, HB.out.set 0 _⟩, (Turned.refl _ _).set (fun _ => .inr rfl) _⟩
  | false =>
    rw [Bool.false_or]
    cases h : decide (n > (s.size : Int)) with
    | true =>
      have h' : decide ((s.size : Int) < n) = true := h
      rw [if_pos rfl]
      clear h
      go_enter Try.func32, Try.ntmps32
      go_wp2_with fail
      go_ret
      exact ⟨rfl, ⟨HS.out.far hne _, HB.out.set 0 _⟩, (Turned.refl _ _).set (fun _ => .inr rfl) _⟩
    | false =>
      have h' : decide ((s.size : Int) < n) = false := h
      rw [if_neg (by simp)]
      have hle : n ≤ (s.size : Int) := by simpa using h
      clear h
      go_enter Try.func32, Try.ntmps32
      go_wp2_with fail
      go_region
      go_wp2_with fail
      go_ret
      exact ⟨rfl, ⟨((HS.out.far hne _).set 0 _).drew, ((HB.out.set 0 _).far hne' _).drew⟩, (((Turned.refl _ _).set (fun _ => .inr rfl) _).set (fun _ => .inl rfl) _).drew⟩

/-- Decode's variables: what is left, and the closures take, num. -/
structure DHas4 (w : World) (b : Nat) (x : DSt) : Prop where
  st : DHas w b x
  take : Has w (b + 2) 61 #[.func (.func 32) #[] #[.pointer (some ⟨b + 1, 0, none⟩), .pointer (some ⟨b, 0, none⟩)]]
  num : Has w (b + 3) 65 #[.func (.func 33) #[] #[.pointer (some ⟨b + 2, 0, none⟩)]]

theorem DHas4.turned {w w' : World} {b : Nat} {x y : DSt} (h : DHas4 w b x) (hx : DHas w' b y) (ht : Turned (SB b) w w') : DHas4 w' b y :=
  ⟨hx, h.take.turned ht (by unfold SB; omega), h.num.turned ht (by unfold SB; omega)⟩

theorem dNum_short {x : DSt} (h : (x.bad || decide (1 > (x.s.size : Int))) = true) : (dNum x).1 = 0 ∧ (dNum x).2 = (dTake 1 x).2 ∧ (dTake 1 x).1 = ⟨#[]⟩ := by
  have h2 : (x.bad || decide (1 > x.s.size)) = true := by rw [← h]; congr 1; exact decide_eq_decide.2 (by omega)
  unfold dNum dTake
  rw [if_pos h, if_pos h2]
  exact ⟨rfl, rfl, rfl⟩
theorem dNum_long {x : DSt} (h : (x.bad || decide (1 > (x.s.size : Int))) = false) : (dNum x).1 = bt x.s 0 ∧ (dNum x).2 = (dTake 1 x).2 ∧ (dTake 1 x).1 = x.s.extract 0 1 ∧ 1 ≤ x.s.size := by
  have h2 : (x.bad || decide (1 > x.s.size)) = false := by rw [← h]; congr 1; exact decide_eq_decide.2 (by omega)
  have h3 := h
  simp only [Bool.or_eq_false_iff, decide_eq_false_iff_not] at h3
  have hs : 1 ≤ x.s.size := by omega
  unfold dNum dTake
  rw [if_neg (by rw [h2]; simp), if_neg (by rw [h]; simp)]
  exact ⟨rfl, rfl, rfl, hs⟩

theorem num_1 (w : World) (b : Nat) (x : DSt) (hx : DHas4 w b x) :
    Calls Try.prog 33 #[.pointer (some ⟨b + 2, 0, none⟩)] w fun e w' => e = .returned (.int .i64 (dNum x).1) ∧ DHas4 w' b (dNum x).2 ∧ Turned (SB b) w w' := by
  have c2 := hx.take.cell 0
  simp at c2
  have HX := hide hx
  have HT := hide (take_1 w b x 1 (by omega) hx.st)
  clear hx
  cases h : (x.bad || decide (1 > (x.s.size : Int))) with
  | true =>
    obtain ⟨e1, e2, e3⟩ := dNum_short h
    rw [e1, e2]
    rw [e3] at HT
    clear h e1 e2 e3
    go_enter Try.func33, Try.ntmps33
    go_wp2_with fail
    refine HT.out.mono ?_
    rintro e w1 ⟨rfl, h1, t1⟩
    have H1 := hide h1
    have T1 := hide t1
    clear h1 t1
    go_wp2_with fail
    refine (word_get_short ⟨#[]⟩ 0 1 (by decide) (.inl rfl) (by decide) (by decide) _).mono ?_
    rintro e w2 ⟨rfl, rfl⟩
    go_wp2_with fail
    go_ret
    exact ⟨rfl, HX.out.turned H1.out T1.out, T1.out⟩
  | false =>
    obtain ⟨e1, e2, e3, hs⟩ := dNum_long h
    rw [e1, e2]
    rw [e3] at HT
    clear h e1 e2 e3
    have HS := hide hs
    clear hs
    obtain ⟨v, hv⟩ : ∃ v, bt x.s 0 = v := ⟨_, rfl⟩
    have hv0 : 0 ≤ v := by rw [← hv]; exact (bt_range _ _).1
    have hv1 : v < 256 := by rw [← hv]; have := (bt_range x.s 0).2; omega
    have HG := hide (fun w => word_get_1 (x.s.extract 0 1) 0 (by have := HS.out; simp [ByteArray.size_extract]; omega) (by have := HS.out; simp [ByteArray.size_extract]; omega) w)
    have hn : numAt (x.s.extract 0 1) 0 1 = v := by
      rw [← hv]
      have hs := HS.out
      have h1 : 0 < (x.s.extract 0 1).size := by simp [ByteArray.size_extract]; omega
      unfold numAt numAt byteAt bt
      rw [dif_pos h1, dif_pos (show (0 : Int).toNat < x.s.size by simp; omega)]
      simp [ByteArray.getElem_extract, numAt]
    rw [hn] at HG
    rw [hv]
    clear hv hn
    go_enter Try.func33, Try.ntmps33
    go_wp2_with fail
    refine HT.out.mono ?_
    rintro e w1 ⟨rfl, h1, t1⟩
    have H1 := hide h1
    have T1 := hide t1
    clear h1 t1
    go_wp2_with fail
    refine (HG.out _).mono ?_
    rintro e w2 ⟨rfl, rfl⟩
    go_wp2_with fail
    go_ret
    exact ⟨rfl, HX.out.turned H1.out T1.out, T1.out⟩

theorem dNum_nonneg (x : DSt) : 0 ≤ (dNum x).1 ∧ (dNum x).1 < 256 := by
  cases h : (x.bad || decide (1 > (x.s.size : Int))) with
  | true => rw [(dNum_short h).1]; decide
  | false => rw [(dNum_long h).1]; have := bt_range x.s 0; omega

theorem text_1 (w : World) (b : Nat) (x : DSt) (hx : DHas4 w b x) :
    Calls Try.prog 35 #[.pointer (some ⟨b + 2, 0, none⟩), .pointer (some ⟨b + 3, 0, none⟩)] w fun e w' => e = .returned (.string (dText x).1) ∧ DHas4 w' b (dText x).2 ∧ Turned (SB b) w w' := by
  have HX : Hid (DHas4 w.drew b x) := ⟨⟨hx.st.s, hx.st.bad⟩, hx.take, hx.num⟩
  have c2 := hx.take.cell 0
  have c3 := hx.num.cell 0
  simp at c2 c3
  clear hx
  have n2 : Hid (¬ SB b (b + 2)) := hide (by unfold SB; omega)
  have n3 : Hid (¬ SB b (b + 3)) := hide (by unfold SB; omega)
  go_enter Try.func35, Try.ntmps35
  go_wp2_with fail
  go_region_held3 (fun w' => w'.cell? ⟨b + 2, 0, none⟩ = some (.func (.func 32) #[] #[.pointer (some ⟨b + 1, 0, none⟩), .pointer (some ⟨b, 0, none⟩)]) ∧ w'.cell? ⟨b + 3, 0, none⟩ = some (.func (.func 33) #[] #[.pointer (some ⟨b + 2, 0, none⟩)]))
    (first
      | go_keep
      | (go_split_ands; exact ⟨t6.cell (by assumption) n2.out, t6.cell (by assumption) n3.out⟩)
      | exact ⟨t5.cell (by assumption) n2.out, t5.cell (by assumption) n3.out⟩)
    (first
      | (go_at_call 33; refine (num_1 _ _ _ HX.out).mono ?_; rintro e w2 ⟨rfl, h5, t5⟩)
      | (go_at_call 32; refine (take_1 _ _ _ _ (dNum_nonneg x).1 h5.st).mono ?_; rintro e w3 ⟨rfl, h6, t6⟩))
  go_wp2_with fail
  go_ret
  exact ⟨rfl, h5.turned h6 t6, ((Turned.refl _ w).drew.trans t5).trans t6⟩
end Go.Proofs.Ytkflofjcjolehaa
