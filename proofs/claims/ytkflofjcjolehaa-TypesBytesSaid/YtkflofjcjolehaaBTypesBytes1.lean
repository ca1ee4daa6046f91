/- wardenref10's reader: num and text, walked; what it reads, in plain Lean, and that it reads what package types' Decode reads. -/
import Derived.Test.YtkflofjcjolehaaBig13
import Derived.Laws.EntriesVeiled
import Derived.Lib.ConvBytes
/-! Types: the document's reader. -/
namespace Go.Proofs.Ytkflofjcjolehaa
open Go.RowKit Go.Proofs.YtkflofjcjolehaaW.PrintWords
set_option maxHeartbeats 4000000
set_option maxRecDepth 100000
set_option linter.unusedSimpArgs false
set_option linter.unusedVariables false

def rNum (x : DSt) : Int × DSt := if (x.s.toList == []) = true then (0, ⟨x.s, true⟩) else (bt x.s 0, ⟨x.s.extract 1 x.s.size, x.bad⟩)
def rText (x : DSt) : ByteArray × DSt := if (rNum x).1 > ((rNum x).2.s.size : Int) then (⟨#[]⟩, ⟨(rNum x).2.s, true⟩) else ((rNum x).2.s.extract 0 (rNum x).1.toNat, ⟨(rNum x).2.s.extract (rNum x).1.toNat (rNum x).2.s.size, (rNum x).2.bad⟩)
def rField (x : DSt) : Fl × DSt :=
  let a := rText x; let b := rNum a.2; let c := rNum b.2; let d := rNum c.2; let e := rNum d.2
  (⟨a.1, b.1, c.1, d.1, e.1⟩, e.2)

/-- Two readers: alike, or both at their end. -/
def Sim (p q : DSt) : Prop := (p = q ∧ p.bad = false) ∨ (p.bad = true ∧ q.bad = true)

theorem toList_zero (s : ByteArray) : (s.toList == []) = decide (s.size = 0) := by
  have e : s.toList.length = s.size := by rw [ByteArray.toList_eq]; rfl
  cases h : s.toList with
  | nil => rw [h] at e; rw [decide_eq_true (by rw [← e]; rfl)]; rfl
  | cons a l => rw [h, List.length_cons] at e; rw [decide_eq_false (by omega)]; rfl

theorem dNum_bad {x : DSt} (h : x.bad = true) : (dNum x).2.bad = true := by unfold dNum; rw [if_pos (by rw [h]; rfl)]
theorem rNum_bad {x : DSt} (h : x.bad = true) : (rNum x).2.bad = true := by
  unfold rNum
  split
  · rfl
  · exact h
theorem dTake_bad {n : Int} {x : DSt} (h : x.bad = true) : (dTake n x).2.bad = true := by unfold dTake; rw [if_pos (by rw [h]; rfl)]
theorem rNum_dNum {x : DSt} (h : x.bad = false) : rNum x = dNum x := by
  obtain ⟨s, bad⟩ := x
  simp only [] at h
  subst h
  unfold rNum dNum
  simp only [toList_zero, Bool.false_or, decide_eq_true_eq]
  by_cases hs : s.size = 0
  · rw [if_pos hs, if_pos (by omega)]
  · rw [if_neg hs, if_neg (by omega)]
theorem rText_sim {p q : DSt} (h : Sim p q) : Sim (rText p).2 (dText q).2 ∧ ((rText p).2.bad = false → (rText p).1 = (dText q).1) := by
  rcases h with ⟨rfl, h⟩ | ⟨h1, h2⟩
  · unfold rText dText
    rw [rNum_dNum h]
    obtain ⟨n, hn⟩ : ∃ n, dNum p = n := ⟨_, rfl⟩
    rw [hn]
    unfold dTake
    by_cases hc : n.1 > (n.2.s.size : Int)
    · rw [if_pos hc, if_pos (by rw [decide_eq_true hc, Bool.or_true])]
      exact ⟨.inr ⟨rfl, rfl⟩, fun e => by cases e⟩
    · rw [if_neg hc]
      cases hb : n.2.bad with
      | true =>
        rw [if_pos (by simp)]
        exact ⟨.inr ⟨rfl, rfl⟩, fun e => by cases e⟩
      | false =>
        rw [if_neg (by rw [decide_eq_false hc]; simp)]
        exact ⟨.inl ⟨rfl, rfl⟩, fun _ => rfl⟩
  · have hr : (rText p).2.bad = true := by
      unfold rText
      split
      · rfl
      · exact rNum_bad h1
    exact ⟨.inr ⟨hr, by unfold dText; exact dTake_bad (dNum_bad h2)⟩, fun e => by rw [hr] at e; cases e⟩
theorem rNum_sim {p q : DSt} (h : Sim p q) : Sim (rNum p).2 (dNum q).2 ∧ ((rNum p).2.bad = false → (rNum p).1 = (dNum q).1) := by
  rcases h with ⟨rfl, h⟩ | ⟨h1, h2⟩
  · rw [rNum_dNum h]
    refine ⟨?_, fun _ => rfl⟩
    cases hb : (dNum p).2.bad with
    | true => exact .inr ⟨hb, hb⟩
    | false => exact .inl ⟨rfl, hb⟩
  · have hr := rNum_bad h1
    exact ⟨.inr ⟨hr, dNum_bad h2⟩, fun e => by rw [hr] at e; cases e⟩
theorem rNum_good {x : DSt} (h : (rNum x).2.bad = false) : x.bad = false := by
  cases hb : x.bad with
  | false => rfl
  | true => rw [rNum_bad hb] at h; cases h
theorem rField_sim {p q : DSt} (h : Sim p q) : Sim (rField p).2 (dField q).2 ∧ ((rField p).2.bad = false → (rField p).1 = (dField q).1) := by
  obtain ⟨s1, e1⟩ := rText_sim h
  obtain ⟨s2, e2⟩ := rNum_sim s1
  obtain ⟨s3, e3⟩ := rNum_sim s2
  obtain ⟨s4, e4⟩ := rNum_sim s3
  obtain ⟨s5, e5⟩ := rNum_sim s4
  refine ⟨s5, fun g5 => ?_⟩
  have g5' : (rNum (rNum (rNum (rNum (rText p).2).2).2).2).2.bad = false := g5
  have g4 := rNum_good g5'
  have g3 := rNum_good g4
  have g2 := rNum_good g3
  have g1 := rNum_good g2
  unfold rField dField
  simp only []
  rw [e1 g1, e2 g2, e3 g3, e4 g4, e5 g5']
theorem rNum_range (x : DSt) : 0 ≤ (rNum x).1 ∧ (rNum x).1 < 256 := by
  unfold rNum
  split
  · exact ⟨Int.le_refl _, show (0 : Int) < 256 by decide⟩
  · have := bt_range x.s 0
    exact ⟨this.1, by simp only []; omega⟩

def RB (b k : Nat) : Prop := k = b
/-- The reader in its block. -/
abbrev RV (b : Nat) (w : World) (x : DSt) : Prop := Has w b 69 #[.string x.s, .bool x.bad]

theorem rd_num (w : World) (b : Nat) (x : DSt) (hx : RV b w x) :
    Calls Try.prog 36 #[.pointer (some ⟨b, 0, none⟩)] w fun e w' => e = .returned (.int .i64 (rNum x).1) ∧ RV b w' (rNum x).2 ∧ Turned (RB b) w w' := by
  obtain ⟨s, bad⟩ := x
  have c0 := hx.cell 0
  have c1 := hx.cell 1
  have f0 := hx.free 0
  have f1 := hx.free 1
  simp at c0 c1
  have HX := hide hx
  clear hx
  unfold rNum
  simp only []
  cases hs : (s.toList == []) with
  | true =>
    rw [if_pos rfl]
    go_enter Try.func36, Try.ntmps36
    go_wp2_with fail
    go_ret
    exact ⟨rfl, HX.out.set 1 _, (Turned.refl (RB b) w).set (fun _ => show RB b b from rfl) _⟩
  | false =>
    rw [if_neg (by simp)]
    have hz : 0 < s.size := by rw [toList_zero] at hs; have := of_decide_eq_false hs; omega
    have h1 : (1 : Int) ≤ (s.size : Int) := by omega
    have h0 : (0 : Int) < (s.size : Int) := by omega
    have hx6 := bt_at s 0
    have hx7 : ∀ h : 0 < s.size, ((s[0]'h).toNat : Int) = bt s 0 := bt_at s 0
    have hr := bt_range s 0
    obtain ⟨hr0, hr1⟩ := hr
    go_enter Try.func36, Try.ntmps36
    go_wp2_with fail
    go_ret
    exact ⟨rfl, HX.out.set 0 _, (Turned.refl (RB b) w).set (fun _ => show RB b b from rfl) _⟩

theorem rd_text (w : World) (b : Nat) (x : DSt) (hx : RV b w x) :
    Calls Try.prog 37 #[.pointer (some ⟨b, 0, none⟩)] w fun e w' => e = .returned (.string (rText x).1) ∧ RV b w' (rText x).2 ∧ Turned (RB b) w w' := by
  have HN := hide (rd_num w b x hx)
  have hrg := rNum_range x
  unfold rText
  obtain ⟨n, hn⟩ : ∃ n, rNum x = n := ⟨_, rfl⟩
  rw [hn] at HN hrg ⊢
  clear hn
  obtain ⟨n, s, bad⟩ := n
  simp only [] at HN hrg ⊢
  obtain ⟨n0, n1⟩ := hrg
  by_cases hc : n > (s.size : Int)
  · rw [if_pos hc]
    have d1 : decide (n > (s.size : Int)) = true := decide_eq_true hc
    clear hc hx
    go_enter Try.func37, Try.ntmps37
    go_wp2_with fail
    refine HN.out.mono ?_
    rintro e w1 ⟨rfl, hx1, ht⟩
    have c0 := hx1.cell 0
    have c1 := hx1.cell 1
    have f0 := hx1.free 0
    have f1 := hx1.free 1
    simp at c0 c1
    have HX := hide hx1
    have HT := hide ht
    clear hx1 ht HN
    go_wp2_with fail
    go_ret
    exact ⟨rfl, HX.out.set 1 _, HT.out.set (fun _ => show RB b b from rfl) _⟩
  · rw [if_neg hc]
    have d1 : decide (n > (s.size : Int)) = false := decide_eq_false hc
    have d2 : n ≤ (s.size : Int) := by omega
    clear hc hx
    go_enter Try.func37, Try.ntmps37
    go_wp2_with fail
    refine HN.out.mono ?_
    rintro e w1 ⟨rfl, hx1, ht⟩
    have c0 := hx1.cell 0
    have c1 := hx1.cell 1
    have f0 := hx1.free 0
    have f1 := hx1.free 1
    simp at c0 c1
    have HX := hide hx1
    have HT := hide ht
    clear hx1 ht HN
    go_wp2_with fail
    go_ret
    exact ⟨rfl, HX.out.set 0 _, HT.out.set (fun _ => show RB b b from rfl) _⟩
end Go.Proofs.Ytkflofjcjolehaa

/-! Types: a table's bytes, and what bytes are read as, in plain Lean. -/
namespace Go.Proofs.Ytkflofjcjolehaa
open Go.RowKit Go.Proofs.YtkflofjcjolehaaW.PrintWords
set_option linter.unusedSimpArgs false
set_option linter.unusedVariables false

theorem toList_same {a b : ByteArray} : a.toList = b.toList ↔ a = b := by
  rw [ByteArray.toList_eq, ByteArray.toList_eq]
  exact ⟨fun h => ByteArray.ext (Array.ext' h), fun h => by rw [h]⟩
theorem toList_none : (⟨#[]⟩ : ByteArray).toList = [] := by rw [ByteArray.toList_eq]
theorem smallL_of {l : List Int} (h : ∀ n ∈ l, 0 ≤ n ∧ n ≤ 255) : smallL l = true := by
  unfold smallL
  rw [Bool.not_eq_true', List.any_eq_false]
  intro n hn
  have := h n hn
  unfold noByte
  simp
  omega

theorem putS_one {n : Int} (h0 : 0 ≤ n) (h1 : n ≤ 255) : putS [n] = ⟨#[UInt8.ofNat n.toNat]⟩ := by
  unfold putS strOfNums
  simp [Int.emod_eq_of_lt h0 (show n < 256 by omega)]

theorem putS_cons (a : Int) (l : List Int) : putS (a :: l) = putS [a] ++ putS l := by
  unfold putS
  rw [List.map_cons, List.map_cons, List.map_nil, strOfNums_append]
  rfl
theorem putS_nil : putS [] = ⟨#[]⟩ := rfl

theorem bt_put {n : Int} (h0 : 0 ≤ n) (h1 : n ≤ 255) (z : ByteArray) : bt (putS [n] ++ z) 0 = n := by
  have hs : (0 : Int).toNat < (putS [n] ++ z).size := by rw [ByteArray.size_append, putS_size]; simp; omega
  unfold bt
  rw [dif_pos hs]
  have e : (putS [n] ++ z)[(0 : Int).toNat]'hs = UInt8.ofNat n.toNat := by
    rw [ByteArray.getElem_append_left (by rw [putS_size]; simp)]
    simp only [putS_one h0 h1]
    rfl
  rw [e]
  simp
  omega

theorem dNum_put {n : Int} (h0 : 0 ≤ n) (h1 : n ≤ 255) (z : ByteArray) : dNum ⟨putS [n] ++ z, false⟩ = (n, ⟨z, false⟩) := by
  have hs : (putS [n] ++ z).size = 1 + z.size := by rw [ByteArray.size_append, putS_size]; rfl
  unfold dNum
  rw [if_neg (by simp [hs]), bt_put h0 h1]
  congr 2
  exact ByteArray.extract_append_eq_right (by rw [putS_size]; rfl) (by rw [hs, putS_size]; rfl)

theorem dTake_put {n : Int} {t z : ByteArray} (h : n = t.size) : dTake n ⟨t ++ z, false⟩ = (t, ⟨z, false⟩) := by
  subst h
  unfold dTake
  rw [if_neg (by simp [ByteArray.size_append]; omega)]
  rw [Int.toNat_natCast, ByteArray.extract_append_eq_left rfl, ByteArray.extract_append_eq_right rfl (by rw [ByteArray.size_append])]

theorem dText_put {t z : ByteArray} (h : t.size ≤ 255) : dText ⟨putS [(t.size : Int)] ++ (t ++ z), false⟩ = (t, ⟨z, false⟩) := by
  unfold dText
  rw [dNum_put (by omega) (by omega)]
  exact dTake_put rfl

theorem dField_put {f : Fl} {y z : ByteArray} (hk : 0 ≤ f.kd ∧ f.kd ≤ 255) (h : encFl f = some y) : dField ⟨y ++ z, false⟩ = (f, ⟨z, false⟩) := by
  unfold encFl at h
  split at h
  · rename_i hs
    have b := smallL_all hs
    have b1 := b (f.nm.size : Int) (by simp)
    have b2 := b f.at_ (by simp)
    have b3 := b f.of (by simp)
    have b4 := b f.node (by simp)
    obtain rfl := Option.some.inj h
    rw [putS_cons f.kd, putS_cons f.at_, putS_cons f.of]
    simp only [ByteArray.append_assoc]
    unfold dField
    simp only [dText_put (show f.nm.size ≤ 255 by omega), dNum_put hk.1 hk.2, dNum_put b2.1 b2.2, dNum_put b3.1 b3.2, dNum_put b4.1 b4.2]
  · cases h

theorem dFields_put : ∀ (fs : List Fl) (s r : ByteArray), (∀ f ∈ fs, 0 ≤ f.kd ∧ f.kd ≤ 255) → encFls fs s = some r → ∃ y, r = s ++ y ∧ ∀ z acc, dFields fs.length ⟨y ++ z, false⟩ acc = (acc ++ fs, ⟨z, false⟩)
  | [], s, r, _, h => by
    obtain rfl := Option.some.inj h
    exact ⟨⟨#[]⟩, (ByteArray.append_empty).symm, fun z acc => by rw [show (⟨#[]⟩ : ByteArray) ++ z = z from ByteArray.empty_append]; simp [dFields]⟩
  | f :: fs, s, r, hk, h => by
    unfold encFls at h
    obtain ⟨x, hx, h⟩ := Option.bind_eq_some_iff.1 h
    obtain ⟨y, rfl, hy⟩ := dFields_put fs (s ++ x) r (fun g hg => hk g (List.mem_cons_of_mem _ hg)) h
    refine ⟨x ++ y, by rw [ByteArray.append_assoc], fun z acc => ?_⟩
    rw [List.length_cons]
    unfold dFields
    rw [if_neg (by simp), ByteArray.append_assoc, dField_put (hk f (List.mem_cons_self ..)) hx, hy]
    simp

theorem dType_put {t : Tp} {s hd r : ByteArray} (hk : ∀ f ∈ t.fs, 0 ≤ f.kd ∧ f.kd ≤ 255) (h : encHd t = some hd) (hf : encFls t.fs s = some r) : ∃ y, r = s ++ y ∧ ∀ z, dType ⟨hd ++ y ++ z, false⟩ = (t, ⟨z, false⟩) := by
  obtain ⟨y, rfl, hy⟩ := dFields_put t.fs s r hk hf
  refine ⟨y, rfl, fun z => ?_⟩
  unfold encHd at h
  split at h
  · rename_i hs
    have b := smallL_all hs
    have b1 := b (t.nm.size : Int) (by simp)
    have b2 := b t.sz (by simp)
    have b3 := b (t.fs.length : Int) (by simp)
    obtain rfl := Option.some.inj h
    rw [putS_cons t.sz]
    simp only [ByteArray.append_assoc]
    unfold dType
    simp only [dText_put (show t.nm.size ≤ 255 by omega), dNum_put b2.1 b2.2, dNum_put b3.1 b3.2, Int.toNat_natCast, hy, List.nil_append]
  · cases h

theorem dTypes_put : ∀ (l : List Tp) (s r : ByteArray), (∀ t ∈ l, ∀ f ∈ t.fs, 0 ≤ f.kd ∧ f.kd ≤ 255) → encTps l s = some r → ∃ y, r = s ++ y ∧ ∀ z acc, dTypes l.length ⟨y ++ z, false⟩ acc = (acc ++ l, ⟨z, false⟩)
  | [], s, r, _, h => by
    obtain rfl := Option.some.inj h
    exact ⟨⟨#[]⟩, (ByteArray.append_empty).symm, fun z acc => by rw [show (⟨#[]⟩ : ByteArray) ++ z = z from ByteArray.empty_append]; simp [dTypes]⟩
  | t :: l, s, r, hk, h => by
    unfold encTps at h
    obtain ⟨x, hx, h⟩ := Option.bind_eq_some_iff.1 h
    obtain ⟨r1, hr1, h⟩ := Option.bind_eq_some_iff.1 h
    obtain ⟨y1, rfl, hy1⟩ := dType_put (hk t (List.mem_cons_self ..)) hx hr1
    obtain ⟨y, rfl, hy⟩ := dTypes_put l _ r (fun g hg => hk g (List.mem_cons_of_mem _ hg)) h
    refine ⟨x ++ y1 ++ y, by simp only [ByteArray.append_assoc], fun z acc => ?_⟩
    rw [List.length_cons]
    unfold dTypes
    rw [if_neg (by simp), ByteArray.append_assoc, hy1, hy]
    simp

/-- A table's bytes, with others behind them: the table, and those are left. -/
theorem enc_reads {l : List Tp} (hk : ∀ t ∈ l, ∀ f ∈ t.fs, 0 ≤ f.kd ∧ f.kd ≤ 255) (h : (encodeF l).2 = 0) (z : ByteArray) :
    (dNum ⟨(encodeF l).1 ++ z, false⟩).1 = l.length ∧ dTypes l.length (dNum ⟨(encodeF l).1 ++ z, false⟩).2 [] = (l, ⟨z, false⟩) := by
  unfold encodeF at h ⊢
  split at h
  · rename_i hs
    rw [if_pos hs]
    have b := smallL_all hs (l.length : Int) (by simp)
    cases he : encTps l (putS [(l.length : Int)]) with
    | none => rw [he] at h; simp at h
    | some r =>
      obtain ⟨y, rfl, hy⟩ := dTypes_put l _ r hk he
      simp only [ByteArray.append_assoc]
      rw [dNum_put b.1 b.2]
      exact ⟨rfl, by rw [hy]; simp⟩
  · simp at h

theorem enc_dec {l : List Tp} (hk : ∀ t ∈ l, ∀ f ∈ t.fs, 0 ≤ f.kd ∧ f.kd ≤ 255) (h : (encodeF l).2 = 0) : decodeF (encodeF l).1 = (l, 0) := by
  obtain ⟨e1, e2⟩ := enc_reads hk h ⟨#[]⟩
  rw [show (encodeF l).1 ++ (⟨#[]⟩ : ByteArray) = (encodeF l).1 from ByteArray.append_empty] at e1 e2
  unfold decodeF
  simp only [e1, Int.toNat_natCast, e2, toList_none]
  rfl

/-- No table's bytes begin another one's. -/
theorem enc_apart {l m : List Tp} (hl : ∀ t ∈ l, ∀ f ∈ t.fs, 0 ≤ f.kd ∧ f.kd ≤ 255) (hm : ∀ t ∈ m, ∀ f ∈ t.fs, 0 ≤ f.kd ∧ f.kd ≤ 255) (h1 : (encodeF l).2 = 0) (h2 : (encodeF m).2 = 0) {z : ByteArray} (h : (encodeF m).1 = (encodeF l).1 ++ z) : l = m ∧ z = ⟨#[]⟩ := by
  obtain ⟨a1, a2⟩ := enc_reads hl h1 z
  obtain ⟨b1, b2⟩ := enc_reads hm h2 ⟨#[]⟩
  rw [show (encodeF m).1 ++ (⟨#[]⟩ : ByteArray) = (encodeF m).1 from ByteArray.append_empty, h] at b1 b2
  have hn : l.length = m.length := by have := a1.symm.trans b1; omega
  rw [← hn] at b2
  have := a2.symm.trans b2
  simp only [Prod.mk.injEq, DSt.mk.injEq] at this
  exact ⟨this.1, this.2.1⟩

theorem dNum_inv {x : DSt} (h : (dNum x).2.bad = false) : x.bad = false ∧ x.s = putS [(dNum x).1] ++ (dNum x).2.s := by
  by_cases hc : (x.bad || decide (1 > x.s.size)) = true
  · unfold dNum at h
    rw [if_pos hc] at h
    cases h
  · have hn := dNum_nonneg x
    rw [Bool.not_eq_true] at hc
    have hc0 := hc
    simp only [Bool.or_eq_false_iff, decide_eq_false_iff_not] at hc
    refine ⟨hc.1, ?_⟩
    have hs : 0 < x.s.size := by omega
    have e : dNum x = (bt x.s 0, ⟨x.s.extract 1 x.s.size, false⟩) := by unfold dNum; rw [if_neg (by rw [hc0]; simp)]
    rw [e] at hn ⊢
    simp only [] at hn ⊢
    rw [putS_one hn.1 (by omega)]
    have e2 : x.s = x.s.extract 0 1 ++ x.s.extract 1 x.s.size := by
      rw [ByteArray.extract_append_extract]
      rw [show min 0 1 = 0 by omega, show max 1 x.s.size = x.s.size by omega, ByteArray.extract_zero_size]
    have e3 : x.s.extract 0 1 = ⟨#[UInt8.ofNat (bt x.s 0).toNat]⟩ := by
      rw [ByteArray.extract_add_one (show 0 + 1 ≤ x.s.size by omega)]
      unfold bt
      rw [dif_pos (show (0 : Int).toNat < x.s.size from hs)]
      simp
      rfl
    rw [← e3]
    exact e2

theorem dTake_inv {n : Int} {x : DSt} (hn : 0 ≤ n) (h : (dTake n x).2.bad = false) : x.bad = false ∧ x.s = (dTake n x).1 ++ (dTake n x).2.s ∧ ((dTake n x).1.size : Int) = n := by
  by_cases hc : (x.bad || decide (n > x.s.size)) = true
  · unfold dTake at h
    rw [if_pos hc] at h
    cases h
  · have hc2 := hc
    simp only [Bool.or_eq_true, decide_eq_true_eq, not_or] at hc2
    have e : dTake n x = (x.s.extract 0 n.toNat, ⟨x.s.extract n.toNat x.s.size, false⟩) := by unfold dTake; rw [if_neg hc]
    rw [e]
    refine ⟨by cases hb : x.bad <;> simp_all, ?_, ?_⟩
    · rw [ByteArray.extract_append_extract, show min 0 n.toNat = 0 by omega, show max n.toNat x.s.size = x.s.size by omega, ByteArray.extract_zero_size]
    · rw [ByteArray.size_extract]
      omega

theorem dText_inv {x : DSt} (h : (dText x).2.bad = false) : x.bad = false ∧ x.s = putS [((dText x).1.size : Int)] ++ ((dText x).1 ++ (dText x).2.s) ∧ (dText x).1.size ≤ 255 := by
  have hn := dNum_nonneg x
  obtain ⟨h1, h2, h3⟩ := dTake_inv hn.1 (show (dTake (dNum x).1 (dNum x).2).2.bad = false from h)
  obtain ⟨h4, h5⟩ := dNum_inv h1
  have e : dText x = dTake (dNum x).1 (dNum x).2 := rfl
  rw [e]
  refine ⟨h4, ?_, by omega⟩
  rw [h3, ← h2]
  exact h5

theorem dField_inv {x : DSt} (h : (dField x).2.bad = false) : x.bad = false ∧ okFl (dField x).1 = true ∧ ∃ y, encFl (dField x).1 = some y ∧ x.s = y ++ (dField x).2.s := by
  obtain ⟨a, ha⟩ : ∃ a, dText x = a := ⟨_, rfl⟩
  obtain ⟨b, hb⟩ : ∃ b, dNum a.2 = b := ⟨_, rfl⟩
  obtain ⟨c, hc⟩ : ∃ c, dNum b.2 = c := ⟨_, rfl⟩
  obtain ⟨d, hd⟩ : ∃ d, dNum c.2 = d := ⟨_, rfl⟩
  obtain ⟨e, he⟩ : ∃ e, dNum d.2 = e := ⟨_, rfl⟩
  have hf : dField x = (⟨a.1, b.1, c.1, d.1, e.1⟩, e.2) := by unfold dField; simp only [ha, hb, hc, hd, he]
  rw [hf] at h ⊢
  simp only [] at h ⊢
  have be := dNum_nonneg d.2
  have bd := dNum_nonneg c.2
  have bc := dNum_nonneg b.2
  have bb := dNum_nonneg a.2
  obtain ⟨e1, e2⟩ := dNum_inv (x := d.2) (by rw [he]; exact h)
  obtain ⟨d1, d2⟩ := dNum_inv (x := c.2) (by rw [hd]; exact e1)
  obtain ⟨c1, c2⟩ := dNum_inv (x := b.2) (by rw [hc]; exact d1)
  obtain ⟨b1, b2⟩ := dNum_inv (x := a.2) (by rw [hb]; exact c1)
  obtain ⟨a1, a2, a3⟩ := dText_inv (x := x) (by rw [ha]; exact b1)
  rw [he] at e2 be
  rw [hd] at d2 bd
  rw [hc] at c2 bc
  rw [hb] at b2 bb
  rw [ha] at a2 a3
  refine ⟨a1, ?_, putS [(a.1.size : Int)] ++ a.1 ++ putS [b.1, c.1, d.1, e.1], ?_, ?_⟩
  · unfold okFl
    simp only []
    rw [decide_eq_true (show a.1.size ≤ 1000000000000000 by omega), decide_eq_true bb.1, decide_eq_true (show b.1 ≤ 255 by omega)]
    rfl
  · unfold encFl
    simp only []
    rw [if_pos]
    apply smallL_of
    intro n hn
    simp only [List.mem_cons, List.not_mem_nil, or_false] at hn
    rcases hn with rfl | rfl | rfl | rfl <;> omega
  · rw [putS_cons b.1, putS_cons c.1, putS_cons d.1]
    simp only [ByteArray.append_assoc]
    rw [← e2, ← d2, ← c2, ← b2]
    exact a2

theorem dFields_inv : ∀ (k : Nat) (x : DSt) (acc : List Fl), (dFields k x acc).2.bad = false → x.bad = false ∧ ∃ fs y, (dFields k x acc).1 = acc ++ fs ∧ fs.length = k ∧ (∀ f ∈ fs, okFl f = true) ∧ x.s = y ++ (dFields k x acc).2.s ∧ ∀ s, encFls fs s = some (s ++ y)
  | 0, x, acc, h => ⟨h, [], ⟨#[]⟩, by simp [dFields], rfl, (by simp), by rw [show (⟨#[]⟩ : ByteArray) ++ (dFields 0 x acc).2.s = (dFields 0 x acc).2.s from ByteArray.empty_append]; rfl, fun s => by rw [show s ++ (⟨#[]⟩ : ByteArray) = s from ByteArray.append_empty]; rfl⟩
  | k + 1, x, acc, h => by
    unfold dFields at h ⊢
    by_cases hb : x.bad = true
    · rw [if_pos hb] at h
      rw [h] at hb
      cases hb
    · rw [if_neg hb] at h ⊢
      obtain ⟨h1, fs, y, e1, e2, e3, e4, e5⟩ := dFields_inv k _ _ h
      obtain ⟨h2, h3, y2, h4, h5⟩ := dField_inv h1
      refine ⟨h2, (dField x).1 :: fs, y2 ++ y, by rw [e1]; simp, by simp [e2], ?_, ?_, fun s => ?_⟩
      · intro f hf
        rcases List.mem_cons.1 hf with rfl | hf
        · exact h3
        · exact e3 f hf
      · rw [ByteArray.append_assoc, ← e4]
        exact h5
      · unfold encFls
        rw [h4, Option.bind_some, e5, ByteArray.append_assoc]

theorem dType_inv {x : DSt} (h : (dType x).2.bad = false) : x.bad = false ∧ okTp (dType x).1 = true ∧ ∃ hd y, encHd (dType x).1 = some hd ∧ (∀ s, encFls (dType x).1.fs s = some (s ++ y)) ∧ x.s = hd ++ y ++ (dType x).2.s := by
  obtain ⟨a, ha⟩ : ∃ a, dText x = a := ⟨_, rfl⟩
  obtain ⟨b, hb⟩ : ∃ b, dNum a.2 = b := ⟨_, rfl⟩
  obtain ⟨c, hc⟩ : ∃ c, dNum b.2 = c := ⟨_, rfl⟩
  obtain ⟨d, hd⟩ : ∃ d, dFields c.1.toNat c.2 [] = d := ⟨_, rfl⟩
  have hf : dType x = (⟨a.1, b.1, d.1⟩, d.2) := by unfold dType; simp only [ha, hb, hc, hd]
  rw [hf] at h ⊢
  simp only [] at h ⊢
  have bc := dNum_nonneg b.2
  have bb := dNum_nonneg a.2
  obtain ⟨d1, fs, y, d2, d3, d4, d5, d6⟩ := dFields_inv c.1.toNat c.2 [] (by rw [hd]; exact h)
  obtain ⟨c1, c2⟩ := dNum_inv (x := b.2) (by rw [hc]; exact d1)
  obtain ⟨b1, b2⟩ := dNum_inv (x := a.2) (by rw [hb]; exact c1)
  obtain ⟨a1, a2, a3⟩ := dText_inv (x := x) (by rw [ha]; exact b1)
  rw [hd] at d2 d5
  rw [List.nil_append] at d2
  rw [hc] at c2 bc
  rw [hb] at b2 bb
  rw [ha] at a2 a3
  rw [d2]
  have hlen : (fs.length : Int) = c.1 := by omega
  refine ⟨a1, ?_, putS [(a.1.size : Int)] ++ a.1 ++ putS [b.1, (fs.length : Int)], y, ?_, d6, ?_⟩
  · unfold okTp
    simp only []
    rw [decide_eq_true (show a.1.size ≤ 1000000000000000 by omega), decide_eq_true (show fs.length ≤ 1000000000000000 by omega), List.all_eq_true.2 d4]
    rfl
  · unfold encHd
    simp only []
    rw [if_pos]
    apply smallL_of
    intro n hn
    simp only [List.mem_cons, List.not_mem_nil, or_false] at hn
    rcases hn with rfl | rfl | rfl <;> omega
  · rw [putS_cons b.1, hlen]
    simp only [ByteArray.append_assoc]
    rw [← d5, ← c2, ← b2]
    exact a2

theorem dTypes_inv : ∀ (k : Nat) (x : DSt) (acc : List Tp), (dTypes k x acc).2.bad = false → x.bad = false ∧ ∃ ts y, (dTypes k x acc).1 = acc ++ ts ∧ ts.length = k ∧ (∀ t ∈ ts, okTp t = true) ∧ x.s = y ++ (dTypes k x acc).2.s ∧ ∀ s, encTps ts s = some (s ++ y)
  | 0, x, acc, h => ⟨h, [], ⟨#[]⟩, by simp [dTypes], rfl, (by simp), by rw [show (⟨#[]⟩ : ByteArray) ++ (dTypes 0 x acc).2.s = (dTypes 0 x acc).2.s from ByteArray.empty_append]; rfl, fun s => by rw [show s ++ (⟨#[]⟩ : ByteArray) = s from ByteArray.append_empty]; rfl⟩
  | k + 1, x, acc, h => by
    unfold dTypes at h ⊢
    by_cases hb : x.bad = true
    · rw [if_pos hb] at h
      rw [h] at hb
      cases hb
    · rw [if_neg hb] at h ⊢
      obtain ⟨h1, ts, y, e1, e2, e3, e4, e5⟩ := dTypes_inv k _ _ h
      obtain ⟨h2, h3, hd, y2, h4, h5, h6⟩ := dType_inv h1
      refine ⟨h2, (dType x).1 :: ts, hd ++ y2 ++ y, by rw [e1]; simp, by simp [e2], ?_, ?_, fun s => ?_⟩
      · intro f hf
        rcases List.mem_cons.1 hf with rfl | hf
        · exact h3
        · exact e3 f hf
      · rw [ByteArray.append_assoc, ← e4]
        exact h6
      · unfold encTps
        rw [h4, Option.bind_some, h5, Option.bind_some, e5]
        simp only [ByteArray.append_assoc]

/-- Bytes that are read are written as they were. -/
theorem dec_enc {s : ByteArray} (h : (decodeF s).2 = 0) : encodeF (decodeF s).1 = (s, 0) ∧ okTps (decodeF s).1 = true ∧ (decodeF s).1.length ≤ 255 := by
  obtain ⟨n, hn⟩ : ∃ n, dNum ⟨s, false⟩ = n := ⟨_, rfl⟩
  obtain ⟨r, hr⟩ : ∃ r, dTypes n.1.toNat n.2 [] = r := ⟨_, rfl⟩
  have hd : decodeF s = if (r.2.bad || !(r.2.s.toList == [])) = true then ([], 8) else (r.1, 0) := by unfold decodeF; simp only [hn, hr]
  rw [hd] at h ⊢
  by_cases hc : (r.2.bad || !(r.2.s.toList == [])) = true
  · rw [if_pos hc] at h; simp at h
  · rw [if_neg hc]
    simp only [Bool.or_eq_true, Bool.not_eq_true', beq_eq_false_iff_ne, ne_eq, not_or, Bool.not_eq_true, Decidable.not_not] at hc
    obtain ⟨hb, he⟩ := hc
    have hz : r.2.s = ⟨#[]⟩ := by
      apply toList_same.1
      rw [he, toList_none]
    have bn := dNum_nonneg ⟨s, false⟩
    obtain ⟨d1, ts, y, d2, d3, d4, d5, d6⟩ := dTypes_inv n.1.toNat n.2 [] (by rw [hr]; exact hb)
    obtain ⟨c1, c2⟩ := dNum_inv (x := ⟨s, false⟩) (by rw [hn]; exact d1)
    rw [hn] at c2 bn
    rw [hr] at d2 d5
    rw [List.nil_append] at d2
    rw [hz, show y ++ (⟨#[]⟩ : ByteArray) = y from ByteArray.append_empty] at d5
    rw [d5] at c2
    simp only [] at c2 ⊢
    rw [d2]
    have hlen : (ts.length : Int) = n.1 := by omega
    refine ⟨?_, ?_, by omega⟩
    · unfold encodeF
      rw [hlen, if_pos (smallL_of (fun m hm => by simp only [List.mem_cons, List.not_mem_nil, or_false] at hm; subst hm; omega)), d6, ← c2]
    · unfold okTps
      rw [decide_eq_true (show ts.length ≤ 1000000000000000 by omega), List.all_eq_true.2 d4]
      rfl
theorem dec_two (s : ByteArray) : (decodeF s).2 = 0 ∨ decodeF s = ([], 8) := by
  unfold decodeF
  simp only []
  split
  · exact .inr rfl
  · exact .inl rfl
theorem enc_two (l : List Tp) : (encodeF l).2 = 0 ∨ encodeF l = (⟨#[]⟩, 2) := by
  unfold encodeF
  split
  · split
    · exact .inl rfl
    · exact .inr rfl
  · exact .inr rfl

theorem flSame_eq {f g : Fl} : flSame f g = true ↔ f = g := by
  obtain ⟨a, b, c, d, e⟩ := f
  obtain ⟨a2, b2, c2, d2, e2⟩ := g
  unfold flSame
  simp only [Bool.and_eq_true, beq_iff_eq, Fl.mk.injEq, toList_same]
theorem all_zip_eq {α : Type} {p : α → α → Bool} (hp : ∀ x y, p x y = true ↔ x = y) : ∀ (l m : List α), (decide (l.length = m.length) && (l.zip m).all fun q => p q.1 q.2) = true ↔ l = m
  | [], [] => by simp
  | [], _ :: _ => by simp
  | _ :: _, [] => by simp
  | x :: l, y :: m => by
    have ih := all_zip_eq hp l m
    simp only [Bool.and_eq_true, decide_eq_true_eq] at ih
    simp only [List.length_cons, List.zip_cons_cons, List.all_cons, Bool.and_eq_true, decide_eq_true_eq, hp, List.cons.injEq, ← ih]
    constructor
    · rintro ⟨h1, h2, h3⟩; exact ⟨h2, by omega, h3⟩
    · rintro ⟨h1, h2, h3⟩; exact ⟨by omega, h1, h3⟩
theorem tpSame_eq {x y : Tp} : tpSame x y = true ↔ x = y := by
  obtain ⟨a, b, c⟩ := x
  obtain ⟨a2, b2, c2⟩ := y
  unfold tpSame flsSame
  rw [Bool.and_eq_true, Bool.and_eq_true, all_zip_eq (fun x y => flSame_eq)]
  simp only [beq_iff_eq, Tp.mk.injEq, toList_same]
theorem tysSame_eq {l m : List Tp} : tysSame l m = true ↔ l = m := all_zip_eq (fun x y => tpSame_eq) l m
end Go.Proofs.Ytkflofjcjolehaa

/-! Types: the document's Decode. -/
namespace Go.Proofs.Ytkflofjcjolehaa
open Go.RowKit Go.Proofs.YtkflofjcjolehaaW.PrintWords
set_option maxHeartbeats 4000000
set_option maxRecDepth 100000
set_option linter.unusedSimpArgs false
set_option linter.unusedVariables false

theorem dField_bad {x : DSt} (h : x.bad = true) : (dField x).2.bad = true := by
  unfold dField
  exact dNum_bad (dNum_bad (dNum_bad (dNum_bad (dTake_bad (dNum_bad h)))))
theorem dFields_bad : ∀ (k : Nat) {x : DSt} (acc : List Fl), x.bad = true → (dFields k x acc).2.bad = true
  | 0, _, _, h => h
  | k + 1, x, acc, h => by unfold dFields; rw [if_pos h]; exact h
theorem dTypes_bad : ∀ (k : Nat) {x : DSt} (acc : List Tp), x.bad = true → (dTypes k x acc).2.bad = true
  | 0, _, _, h => h
  | k + 1, x, acc, h => by unfold dTypes; rw [if_pos h]; exact h
theorem dFields_next {k : Nat} (hk : k ≠ 0) {x : DSt} (hx : x.bad = false) (acc : List Fl) : dFields k x acc = dFields (k - 1) (dField x).2 (acc ++ [(dField x).1]) := by
  obtain ⟨k, rfl⟩ : ∃ m, k = m + 1 := ⟨k - 1, by omega⟩
  conv => lhs; unfold dFields
  rw [if_neg (by rw [hx]; simp)]
  rfl
theorem dTypes_next {k : Nat} (hk : k ≠ 0) {x : DSt} (hx : x.bad = false) (acc : List Tp) : dTypes k x acc = dTypes (k - 1) (dType x).2 (acc ++ [(dType x).1]) := by
  obtain ⟨k, rfl⟩ : ∃ m, k = m + 1 := ⟨k - 1, by omega⟩
  conv => lhs; unfold dTypes
  rw [if_neg (by rw [hx]; simp)]
  rfl
/-- A field: read alike, or at the end both. -/
theorem rField_two {x : DSt} (h : x.bad = false) : ((rField x).2.bad = false ∧ rField x = dField x) ∨ ((rField x).2.bad = true ∧ (dField x).2.bad = true) := by
  obtain ⟨s, e⟩ := rField_sim (p := x) (q := x) (.inl ⟨rfl, h⟩)
  rcases s with ⟨s1, s2⟩ | s
  · exact .inl ⟨s2, Prod.ext (e s2) s1⟩
  · exact .inr s
/-- A type's head: read alike, or at the end both. -/
theorem rHead_two {x : DSt} (h : x.bad = false) :
    ((rNum (rNum (rText x).2).2).2.bad = false ∧ dType x = (⟨(rText x).1, (rNum (rText x).2).1, (dFields (rNum (rNum (rText x).2).2).1.toNat (rNum (rNum (rText x).2).2).2 []).1⟩, (dFields (rNum (rNum (rText x).2).2).1.toNat (rNum (rNum (rText x).2).2).2 []).2)) ∨
    ((rNum (rNum (rText x).2).2).2.bad = true ∧ (dType x).2.bad = true) := by
  obtain ⟨s1, e1⟩ := rText_sim (p := x) (q := x) (.inl ⟨rfl, h⟩)
  obtain ⟨s2, e2⟩ := rNum_sim s1
  obtain ⟨s3, e3⟩ := rNum_sim s2
  rcases s3 with ⟨s4, s5⟩ | ⟨s4, s5⟩
  · have g2 := rNum_good s5
    have g1 := rNum_good g2
    refine .inl ⟨s5, ?_⟩
    unfold dType
    simp only []
    rw [← s4, ← e3 s5, ← e2 g2, ← e1 g1]
  · refine .inr ⟨s4, ?_⟩
    unfold dType
    simp only []
    exact dFields_bad _ _ s5

theorem R_rb {α : Type} {d : Kd α} {e : Nat} {w w' : World} {base b : Nat} {ok : Nat → Prop} {v : Value} {xs : List α} {x : DSt} (h : d.R e w base ok v xs) (hx : RV b w x) (h9 : ∀ q, q ∈ e :: d.E → q ≠ 69) (ht : Turned (RB b) w w') : d.R e w' base ok v xs :=
  Kd.R_mono (Kd.R_step (Kd.R_types h hx h9) (fun k hk hlt => ht.block k hlt (fun hs => hk.2 hs))) (fun _ hk => hk.1)
theorem below_rb {b : Nat} {w w1 w2 : World} (h1 : Below b w w1) (h2 : Turned (RB b) w1 w2) (hb : b ≤ w1.heap.size) : Below b w w2 := h1.trans (h2.below hb (fun k hk => by unfold RB at hk; omega))

/-- A type that is being read, in block g; those ahead of it are in l. -/
structure RTS (b g : Nat) (w0 w : World) (y : DSt) (cs : Array Value) (l : Value) (acc : List Tp) : Prop where
  v : RV b w y
  gb : b < g
  h : Has w g 44 cs
  r : kT.R 44 w b (fun q => q < g) l acc
  bw : Below b w0 w
/-- A field of it, in block h; those ahead of it are in v. -/
structure RFS (b g h : Nat) (w0 w : World) (y : DSt) (cs fcs : Array Value) (l : Value) (acc : List Tp) (v : Value) (ac2 : List Fl) : Prop where
  t : RTS b g w0 w y cs l acc
  gh : g < h
  f : Has w h 46 fcs
  r : kF.R 46 w b (fun q => g < q ∧ q < h) v ac2

section
variable {b g h : Nat} {w0 w w' : World} {y y' : DSt} {cs fcs : Array Value} {l v : Value} {acc : List Tp} {ac2 : List Fl}
theorem RTS.set (t : RTS b g w0 w y cs l acc) (i : Nat) (u : Value) : RTS b g w0 (w.setCell ⟨g, i, none⟩ u) y (cs.setIfInBounds i u) l acc :=
  ⟨t.v.far (by have := t.gb; simp; omega) u, t.gb, t.h.set i u, Kd.R_far (p := ⟨g, i, none⟩) t.r (fun k hk => Nat.ne_of_lt hk) u, t.bw.setCell (by have := t.gb; simp; omega) u⟩
theorem RTS.turn (t : RTS b g w0 w y cs l acc) (hv : RV b w' y') (ht : Turned (RB b) w w') : RTS b g w0 w' y' cs l acc :=
  ⟨hv, t.gb, t.h.turned ht (by have := t.gb; unfold RB; omega), R_rb t.r t.v (by decide) ht, below_rb t.bw ht (by have := t.v.lt; omega)⟩
theorem RTS.alloc (t : RTS b g w0 w y cs l acc) (o : Obj) : RTS b g w0 (w.alloc o) y cs l acc :=
  ⟨t.v.alloc o, t.gb, t.h.alloc o, Kd.R_below t.r (below_box w o), below_trans' t.bw (below_box w o) (by have := t.v.lt; omega)⟩
theorem RTS.grown (t : RTS b g w0 w y cs l acc) {row : Option Nat} (hg : w.grownBy w' row) (hr : ∀ q, row = some q → g < q) : RTS b g w0 w' y cs l acc := by
  have ht : Turned (fun k => g < k) w w' := Turned.grown hg hr
  exact ⟨t.v.turned ht (by have := t.gb; omega), t.gb, t.h.turned ht (by omega), Kd.R_grown t.r hg (fun k hk e => by have := hr k e.symm; omega), t.bw.trans (ht.below (by have := t.v.lt; omega) (fun k hk => by have := t.gb; omega))⟩
theorem RFS.set (t : RFS b g h w0 w y cs fcs l acc v ac2) (i : Nat) (u : Value) : RFS b g h w0 (w.setCell ⟨h, i, none⟩ u) y cs (fcs.setIfInBounds i u) l acc v ac2 :=
  ⟨⟨t.t.v.far (by have := t.t.gb; have := t.gh; simp; omega) u, t.t.gb, t.t.h.far (by have := t.gh; simp; omega) u, Kd.R_far (p := ⟨h, i, none⟩) t.t.r (fun k hk => by have := t.gh; have hk' : k < g := hk; simp; omega) u, t.t.bw.setCell (by have := t.t.gb; have := t.gh; simp; omega) u⟩,
    t.gh, t.f.set i u, Kd.R_far (p := ⟨h, i, none⟩) t.r (fun k hk => Nat.ne_of_lt hk.2) u⟩
theorem RFS.turn (t : RFS b g h w0 w y cs fcs l acc v ac2) (hv : RV b w' y') (ht : Turned (RB b) w w') : RFS b g h w0 w' y' cs fcs l acc v ac2 :=
  ⟨t.t.turn hv ht, t.gh, t.f.turned ht (by have := t.t.gb; have := t.gh; unfold RB; omega), R_rb t.r t.t.v (by decide) ht⟩
theorem RFS.new (t : RTS b g w0 w y cs l acc) (r : kF.R 46 w b (fun q => g < q) v ac2) (fcs : Array Value) : RFS b g w.heap.size w0 (w.alloc (.cells fcs 46)) y cs fcs l acc v ac2 :=
  ⟨t.alloc _, t.h.lt, Has.new _ _ _, Kd.R_below (Kd.R_mono (Kd.R_bound r) (fun q hq => ⟨hq.1, hq.2.2.1⟩)) (below_box _ _)⟩
theorem RTS.new (v : RV b w y) (r : kT.R 44 w b (fun _ => True) l acc) (bw : Below b w0 w) (cs : Array Value) : RTS b w.heap.size w0 (w.alloc (.cells cs 44)) y cs l acc :=
  ⟨v.alloc _, v.lt, Has.new _ _ _, Kd.R_below (Kd.R_mono (Kd.R_bound r) (fun q hq => hq.2.2.1)) (below_box _ _), below_trans' bw (below_box _ _) (by have := v.lt; omega)⟩
end
end Go.Proofs.Ytkflofjcjolehaa

/-! Types: the document's Decode. -/
namespace Go.Proofs.Ytkflofjcjolehaa
open Go.RowKit Go.Proofs.YtkflofjcjolehaaW.PrintWords
set_option maxHeartbeats 40000000
set_option maxRecDepth 100000
set_option linter.unusedSimpArgs false
set_option linter.unusedVariables false

theorem rd_decode (w : World) (s : ByteArray) :
    Calls Try.prog 15 #[.string s] w fun e w' => ∃ v : Value, e = .returned (.tuple #[v, .int .i64 (decodeF s).2]) ∧ Kd.R kT 44 w' w.heap.size (fun _ => True) v (decodeF s).1 ∧ Below w.heap.size w w' := by
  go_enter Try.func15, Try.ntmps15
  go_wp2_with fail
  obtain ⟨b, hb⟩ : ∃ b, w.heap.size = b := ⟨_, rfl⟩
  have HD0 : RV b (w.alloc (Obj.cells #[.string s, .bool false] 69)) ⟨s, false⟩ := by rw [← hb]; exact Has.new _ _ _
  have HB0 : Below b w (w.alloc (Obj.cells #[.string s, .bool false] 69)) := by rw [← hb]; exact below_box _ _
  rw [hb]
  have HB := hide hb
  clear hb
  refine (rd_num _ b _ HD0).mono ?_
  rintro e w1 ⟨rfl, HD1, T1⟩
  have HB1 : Below b w w1 := HB0.trans (T1.below (by have := HB.out; have := HB0.size; omega) (fun k hk => by unfold RB at hk; omega))
  clear HD0 HB0 T1
  rw [rNum_dNum rfl] at HD1
  rw [rNum_dNum rfl]
  obtain ⟨R, hR⟩ : ∃ R, dTypes (dNum ⟨s, false⟩).1.toNat (dNum ⟨s, false⟩).2 [] = R := ⟨_, rfl⟩
  obtain ⟨n, hn⟩ : ∃ n : Nat, (dNum ⟨s, false⟩).1 = n := ⟨(dNum ⟨s, false⟩).1.toNat, by have := (dNum_nonneg ⟨s, false⟩).1; omega⟩
  have hn2 : n ≤ 255 := by have := (dNum_nonneg ⟨s, false⟩).2; omega
  have hdec : Hid (decodeF s = if (R.2.bad || !(R.2.s.toList == [])) = true then ([], 8) else (R.1, 0)) := hide (by unfold decodeF; simp only []; rw [hR])
  rw [hn, Int.toNat_natCast] at hR
  rw [hn]
  obtain ⟨x1, hx1⟩ : ∃ x, (dNum ⟨s, false⟩).2 = x := ⟨_, rfl⟩
  rw [hx1] at hR HD1
  clear hx1 hn
  have HR := hide hR
  clear hR
  have HDD := hide HD1
  have HBB := hide HB1
  have HN2 := hide hn2
  clear HD1 HB1 hn2
  go_wp2_with fail
  go_loopw [5, 7] (fun l i wr => ∃ (k : Nat) (x : DSt) (acc : List Tp), k ≤ n ∧ i = .int .i64 k ∧ ((x.bad = false ∧ dTypes (n - k) x acc = R) ∨ (x.bad = true ∧ R.2.bad = true)) ∧ RV b wr x ∧ kT.R 44 wr b (fun _ => True) l acc ∧ acc.length = k ∧ Below b w wr) (fun _ i _ => n - (intOf i).toNat)
  case atStart =>
    refine ⟨0, x1, [], Nat.zero_le _, rfl, ?_, HDD.out, Kd.R_nil _ _ _ _ _, rfl, HBB.out⟩
    cases hb : x1.bad with
    | false => exact .inl ⟨rfl, HR.out⟩
    | true => exact .inr ⟨rfl, by rw [← HR.out]; exact dTypes_bad _ _ hb⟩
  case round =>
    clear HR HDD HBB
    obtain ⟨k, x, acc, hk, rfl, hdt, hV, hRl, hlen, hBw⟩ := hrel
    have hc0 := hV.cell 0
    have hc1 := hV.cell 1
    simp at hc0 hc1
    obtain ⟨xs, bad⟩ := x
    simp only [] at hc0 hc1 hdt
    have HV := hide hV
    have HL := hide hRl
    have HW := hide hBw
    have HLN := hide hlen
    have HDT := hide hdt
    clear hV hRl hBw hlen hdt
    by_cases hkn : k < n
    · have hkn1 : (k : Int) < n := by omega
      cases bad with
      | true =>
        have hRb : Hid (R.2.bad = true) := hide (by rcases HDT.out with ⟨h, _⟩ | ⟨_, h⟩; cases h; exact h)
        clear HDT
        go_wp2_with fail
        go_ret2
        have e := hdec.out
        rw [hRb.out, Bool.true_or, if_pos rfl] at e
        rw [e]
        exact ⟨_, rfl, Kd.R_nil _ _ _ _ _, by rw [HB.out]; exact HW.out⟩
      | false =>
        have HKN := hide hkn
        have hdt1 : Hid (dTypes (n - k - 1) (dType ⟨xs, false⟩).2 (acc ++ [(dType ⟨xs, false⟩).1]) = R) := hide (by rcases HDT.out with ⟨_, h⟩ | ⟨h, _⟩; rw [← dTypes_next (by omega) rfl]; exact h; cases h)
        clear HDT hkn hk
        have HTX := hide (rd_text wr b _ HV.out)
        have hhd := rHead_two (x := ⟨xs, false⟩) rfl
        obtain ⟨DT, hDT⟩ : ∃ D, dType ⟨xs, false⟩ = D := ⟨_, rfl⟩
        rw [hDT] at hhd hdt1
        obtain ⟨a, ha⟩ : ∃ a, rText ⟨xs, false⟩ = a := ⟨_, rfl⟩
        rw [ha] at hhd HTX
        obtain ⟨c, hc⟩ : ∃ c, rNum a.2 = c := ⟨_, rfl⟩
        rw [hc] at hhd
        obtain ⟨p, hp⟩ : ∃ p, rNum c.2 = p := ⟨_, rfl⟩
        rw [hp] at hhd
        have hrg := rNum_range c.2
        rw [hp] at hrg
        have HHD := hide hhd
        have HC := hide hc
        have HP := hide hp
        clear hhd hDT ha hc hp
        obtain ⟨m, hm⟩ : ∃ m : Nat, p.1 = m := ⟨p.1.toNat, by omega⟩
        have HM2 : Hid (m ≤ 255) := hide (by omega)
        have HMM := hide hm
        clear hrg hm
        go_wp2_with fail
        refine HTX.out.mono ?_
        rintro e w2 ⟨rfl, V2, T2⟩
        have HBW2 := hide (below_rb HW.out T2 (by have := HV.out.lt; omega))
        have HRL2 := hide (R_rb HL.out HV.out (by decide) T2)
        have HV2 := hide V2
        clear V2 T2 HTX hc0 hc1
        obtain ⟨g, hg⟩ : ∃ g, w2.heap.size = g := ⟨_, rfl⟩
        have S2 := RTS.new HV2.out HRL2.out HBW2.out #[.string a.1, .int .i64 0, .slice none 0 0]
        rw [hg] at S2
        have HN3 := hide (rd_num _ b _ S2.v)
        rw [HC.out] at HN3
        have HS2 := hide S2
        have HG := hide hg
        clear S2 hg HV2 HRL2 HBW2
        go_wp2_with fail
        rw [HG.out]
        refine HN3.out.mono ?_
        rintro e w3 ⟨rfl, V3, T3⟩
        have S3 := HS2.out.turn V3 T3
        have g0 := S3.h.cell 0
        have g1 := S3.h.cell 1
        have g2 := S3.h.cell 2
        have gf1 := S3.h.free 1
        simp at g0 g1 g2
        have S3b := S3.set 1 (.int .i64 c.1)
        have HN4 := hide (rd_num _ b _ S3b.v)
        rw [HP.out] at HN4
        have HS3 : Hid (RTS b g w (w3.setCell ⟨g, 1, none⟩ (.int .i64 c.1)) c.2 #[.string a.1, .int .i64 c.1, .slice none 0 0] u5 acc) := hide S3b
        clear S3 S3b V3 T3 HN3 HS2
        go_wp2_with fail
        refine HN4.out.mono ?_
        rintro e w4 ⟨rfl, V4, T4⟩
        have HS4 := hide (HS3.out.turn V4 T4)
        clear V4 T4 HN4 HS3 g0 g1 g2 gf1
        rw [HMM.out]
        obtain ⟨nm, hnm⟩ : ∃ nm, a.1 = nm := ⟨_, rfl⟩
        obtain ⟨sz, hsz⟩ : ∃ sz, c.1 = sz := ⟨_, rfl⟩
        rw [hnm, hsz] at HS4 HHD
        rw [hnm, hsz]
        rw [HMM.out, Int.toNat_natCast] at HHD
        clear hnm hsz
        clear HG
        go_wp2_with fail
        go_loopw [10] (fun i wi => ∃ (j : Nat) (y : DSt) (ac2 : List Fl) (v : Value), j ≤ m ∧ i = .int .i64 j ∧ ((y.bad = false ∧ DT = (⟨nm, sz, (dFields (m - j) y ac2).1⟩, (dFields (m - j) y ac2).2)) ∨ (y.bad = true ∧ DT.2.bad = true)) ∧ RTS b g w wi y #[.string nm, .int .i64 sz, v] u5 acc ∧ kF.R 46 wi b (fun q => g < q) v ac2 ∧ ac2.length = j) (fun i _ => m - (intOf i).toNat)
        case atStart =>
          refine ⟨0, p.2, [], .slice none 0 0, Nat.zero_le _, rfl, ?_, HS4.out, Kd.R_nil _ _ _ _ _, rfl⟩
          exact HHD.out
        case round =>
          clear HHD HS4
          obtain ⟨j, y, ac2, v, hj, rfl, hdf, hS, hv, hl2⟩ := hrel
          obtain ⟨ys, bad⟩ := y
          have hc0 := hS.v.cell 0
          have hc1 := hS.v.cell 1
          simp at hc0 hc1
          simp only [] at hdf
          have HS := hide hS
          have HRV := hide hv
          have HL2 := hide hl2
          have HDF := hide hdf
          clear hS hv hl2 hdf
          by_cases hgo : j < m ∧ bad = false
          · obtain ⟨hjm, rfl⟩ := hgo
            have hjm1 : (j : Int) < m := by omega
            have v3 : IntKind.i64.wrap ((j : Int) + 1) = (j : Int) + 1 := by rw [w64]; unfold wrap64; have := HM2.out; omega
            have HJM := hide hjm
            have hdf2 : Hid (DT = (⟨nm, sz, (dFields (m - j - 1) (dField ⟨ys, false⟩).2 (ac2 ++ [(dField ⟨ys, false⟩).1])).1⟩, (dFields (m - j - 1) (dField ⟨ys, false⟩).2 (ac2 ++ [(dField ⟨ys, false⟩).1])).2)) := hide (by
              rcases HDF.out with ⟨_, h⟩ | ⟨h, _⟩
              · rw [← dFields_next (by omega) rfl]; exact h
              · cases h)
            clear HDF hjm hj
            have hfd := rField_two (x := ⟨ys, false⟩) rfl
            have HTX := hide (rd_text wr b _ HS.out.v)
            obtain ⟨A0, hA0⟩ : ∃ a, rText ⟨ys, false⟩ = a := ⟨_, rfl⟩
            obtain ⟨A1, hA1⟩ : ∃ a, rNum A0.2 = a := ⟨_, rfl⟩
            obtain ⟨A2, hA2⟩ : ∃ a, rNum A1.2 = a := ⟨_, rfl⟩
            obtain ⟨A3, hA3⟩ : ∃ a, rNum A2.2 = a := ⟨_, rfl⟩
            obtain ⟨A4, hA4⟩ : ∃ a, rNum A3.2 = a := ⟨_, rfl⟩
            have hrf : rField ⟨ys, false⟩ = (⟨A0.1, A1.1, A2.1, A3.1, A4.1⟩, A4.2) := by unfold rField; simp only [hA0, hA1, hA2, hA3, hA4]
            rw [hrf] at hfd
            rw [hA0] at HTX
            have nn1 : 0 ≤ A1.1 := by rw [← hA1]; exact (rNum_range _).1
            have nm1 : A1.1 < 256 := by rw [← hA1]; exact (rNum_range _).2
            have HFD := hide hfd
            have HA1 := hide hA1
            have HA2 := hide hA2
            have HA3 := hide hA3
            have HA4 := hide hA4
            clear hfd hrf hA0 hA1 hA2 hA3 hA4
            go_wp2_with fail
            refine HTX.out.mono ?_
            rintro e w5 ⟨rfl, V5, T5⟩
            have S5 := HS.out.turn V5 T5
            have R5 := R_rb HRV.out HS.out.v (by decide) T5
            obtain ⟨h, hh⟩ : ∃ h, w5.heap.size = h := ⟨_, rfl⟩
            have S0 := RFS.new S5 R5 #[.string A0.1, .int .u8 0, .int .i64 0, .int .i64 0, .int .i64 0]
            rw [hh] at S0
            have rb : b ≠ h := by have := S0.t.gb; have := S0.gh; omega
            have rg : g ≠ h := by have := S0.gh; omega
            have HH := hide hh
            have HT1 := hide (rd_num _ b _ S0.t.v)
            rw [HA1.out] at HT1
            have HS0 := hide S0
            clear S5 R5 S0 V5 T5 HTX hh hc0 hc1
            go_wp2_with fail
            rw [HH.out]
            refine HT1.out.mono ?_
            rintro e w6 ⟨rfl, V, T⟩
            have S1 := HS0.out.turn V T
            have f1 := S1.f.cell 1
            have ff1 := S1.f.free 1
            simp at f1
            have HT2 := hide (rd_num _ b _ (S1.set 1 (.int .u8 A1.1)).t.v)
            rw [HA2.out] at HT2
            have HS1 : Hid (RFS b g h w (w6.setCell ⟨h, 1, none⟩ (.int .u8 A1.1)) A1.2 #[.string nm, .int .i64 sz, v] #[.string A0.1, .int .u8 A1.1, .int .i64 0, .int .i64 0, .int .i64 0] u5 acc v ac2) := hide (S1.set 1 (.int .u8 A1.1))
            clear S1 V T HT1 HS0 HH
            go_wp2_with fail
            refine HT2.out.mono ?_
            rintro e w7 ⟨rfl, V, T⟩
            have S1 := HS1.out.turn V T
            clear f1 ff1
            have f2 := S1.f.cell 2
            have ff2 := S1.f.free 2
            simp at f2
            have HT3 := hide (rd_num _ b _ (S1.set 2 (.int .i64 A2.1)).t.v)
            rw [HA3.out] at HT3
            have HS2 : Hid (RFS b g h w (w7.setCell ⟨h, 2, none⟩ (.int .i64 A2.1)) A2.2 #[.string nm, .int .i64 sz, v] #[.string A0.1, .int .u8 A1.1, .int .i64 A2.1, .int .i64 0, .int .i64 0] u5 acc v ac2) := hide (S1.set 2 (.int .i64 A2.1))
            clear S1 V T HT2 HS1
            go_wp2_with fail
            refine HT3.out.mono ?_
            rintro e w8 ⟨rfl, V, T⟩
            have S1 := HS2.out.turn V T
            clear f2 ff2
            have f3 := S1.f.cell 3
            have ff3 := S1.f.free 3
            simp at f3
            have HT4 := hide (rd_num _ b _ (S1.set 3 (.int .i64 A3.1)).t.v)
            rw [HA4.out] at HT4
            have HS3 : Hid (RFS b g h w (w8.setCell ⟨h, 3, none⟩ (.int .i64 A3.1)) A3.2 #[.string nm, .int .i64 sz, v] #[.string A0.1, .int .u8 A1.1, .int .i64 A2.1, .int .i64 A3.1, .int .i64 0] u5 acc v ac2) := hide (S1.set 3 (.int .i64 A3.1))
            clear S1 V T HT3 HS2
            go_wp2_with fail
            refine HT4.out.mono ?_
            rintro e w9 ⟨rfl, V, T⟩
            have S1 := HS3.out.turn V T
            clear f3 ff3
            have f0 := S1.f.cell 0
            have f1 := S1.f.cell 1
            have f2 := S1.f.cell 2
            have f3 := S1.f.cell 3
            have f4 := S1.f.cell 4
            have ff4 := S1.f.free 4
            have g2 := S1.t.h.cell 2
            simp at f0 f1 f2 f3 f4 g2
            have S2 := S1.set 4 (.int .i64 A4.1)
            have HS4 : Hid (RFS b g h w (w9.setCell ⟨h, 4, none⟩ (.int .i64 A4.1)) A4.2 #[.string nm, .int .i64 sz, v] #[.string A0.1, .int .u8 A1.1, .int .i64 A2.1, .int .i64 A3.1, .int .i64 A4.1] u5 acc v ac2) := hide S2
            have haP : Hid (kF.M (w9.setCell ⟨h, 4, none⟩ (.int .i64 A4.1)) b (fun _ => False) ⟨A0.1, A1.1, A2.1, A3.1, A4.1⟩ [.string A0.1, .int .u8 A1.1, .int .i64 A2.1, .int .i64 A3.1, .int .i64 A4.1]) := hide ⟨_, _, rfl, rfl, _, _, rfl, rfl, _, _, rfl, rfl, _, _, rfl, rfl, rfl⟩
            have haF : Hid (∀ q, (w9.setCell ⟨h, 4, none⟩ (.int .i64 A4.1)).heap.size ≤ q → g < q) := hide (fun q hq => by have := S2.t.h.lt; omega)
            have haO : Hid (kF.R 46 (w9.setCell ⟨h, 4, none⟩ (.int .i64 A4.1)) b (fun q => g < q) v ac2) := hide (Kd.R_mono S2.r (fun q hq => hq.1))
            have haB : Hid (Below b w (w9.setCell ⟨h, 4, none⟩ (.int .i64 A4.1))) := hide S2.t.bw
            have haS : Hid (b ≤ (w9.setCell ⟨h, 4, none⟩ (.int .i64 A4.1)).heap.size) := hide (by have := S2.t.v.lt; omega)
            have haL : Hid ((ac2.length + 1) * 48 ≤ 140737488355328) := hide (by have := HL2.out; have := HM2.out; have := HJM.out; omega)
            have hsz9 := hide (size_set w9 ⟨h, 4, none⟩ (.int .i64 A4.1))
            clear S1 S2 V T HT4 HS3
            go_wp2_with (at_builtin; refine Kd.R_append kF (w0 := w) b rfl (.tmp 66) (.tmp 68) 42 46 (.agg #[.string ⟨#[]⟩, .int .u8 0, .int .i64 0, .int .i64 0, .int .i64 0]) 48 rfl Try.underlying42 infoF rfl (by decide) (by omega) v ac2 ⟨A0.1, A1.1, A2.1, A3.1, A4.1⟩ [.string A0.1, .int .u8 A1.1, .int .i64 A2.1, .int .i64 A3.1, .int .i64 A4.1] (fun q => g < q) (fun _ => False) rfl (by first | rfl | (rw [hsz9.out]; rfl)) haP.out (fun _ hk => hk.elim) haF.out haO.out haB.out haS.out haL.out ?_; intro v1 w1 hR1 hB1 hg1 hat1; obtain ⟨Av, cv, hv1⟩ := Kd.R_slice hR1; rw [List.length_append, List.length_singleton] at hv1; subst hv1; have S3 := HS4.out.t.grown hg1 (fun q e => haO.out.1 q e); have k2 := S3.h.cell 2; have kf2 := S3.h.free 2; simp at k2; have HS5 := hide S3; have hHR1 := hide hR1; clear S3 hR1 hB1 hg1 hat1)
            go_roundw
            case rel =>
              refine ⟨j + 1, A4.2, ac2 ++ [⟨A0.1, A1.1, A2.1, A3.1, A4.1⟩], _, by have := HJM.out; omega, by rw [show (((j + 1 : Nat)) : Int) = (j : Int) + 1 by omega], ?_, HS5.out.set 2 _, Kd.R_far (p := ⟨g, 2, none⟩) hHR1.out (fun k hk => Nat.ne_of_gt hk) _, by rw [List.length_append, List.length_singleton, HL2.out]⟩
              rcases HFD.out with ⟨h1, h2⟩ | ⟨h1, h2⟩
              · refine .inl ⟨h1, ?_⟩
                rw [show m - (j + 1) = m - j - 1 by omega]
                have e1 := hdf2.out
                rw [← h2] at e1
                exact e1
              · refine .inr ⟨h1, ?_⟩
                rw [hdf2.out]
                exact dFields_bad _ _ h2
            case measure => have := HJM.out; simp [intOf]; omega
          · have hbm : (j < m ∧ bad = true) ∨ j = m := by
              cases bad with
              | true => rcases Nat.lt_or_ge j m with h | h; exact .inl ⟨h, rfl⟩; exact .inr (by omega)
              | false => exact .inr (by rcases Nat.lt_or_ge j m with h | h; exact absurd ⟨h, rfl⟩ hgo; omega)
            have hres : Hid ((bad = false ∧ DT = (⟨nm, sz, ac2⟩, ⟨ys, bad⟩)) ∨ (bad = true ∧ DT.2.bad = true)) := hide (by
              rcases HDF.out with ⟨h1, h2⟩ | h
              · rcases hbm with ⟨_, h3⟩ | rfl
                · rw [h1] at h3; cases h3
                · refine .inl ⟨h1, ?_⟩
                  rw [Nat.sub_self] at h2
                  exact h2
              · exact .inr h)
            clear hgo hj HDF
            have g0 := HS.out.h.cell 0
            have g1 := HS.out.h.cell 1
            have g2 := HS.out.h.cell 2
            simp at g0 g1 g2
            have haP : Hid (kT.M wr b (fun q => g < q) ⟨nm, sz, ac2⟩ [.string nm, .int .i64 sz, v]) := hide ⟨_, _, rfl, rfl, _, _, rfl, rfl, v, rfl, HRV.out⟩
            have haK : Hid (∀ q, g < q → True ∧ some q ≠ u5.ownBlock) := hide (fun q hq => ⟨trivial, fun e => by have h2 : q < g := HS.out.r.1 q e.symm; omega⟩)
            have haF : Hid (∀ q, wr.heap.size ≤ q → True) := hide (fun _ _ => trivial)
            have haO : Hid (kT.R 44 wr b (fun _ => True) u5 acc) := hide (Kd.R_mono HS.out.r (fun _ _ => trivial))
            have haB : Hid (Below b w wr) := hide HS.out.bw
            have haS : Hid (b ≤ wr.heap.size) := hide (by have := HS.out.v.lt; omega)
            have haL : Hid ((acc.length + 1) * 48 ≤ 140737488355328) := hide (by have := HLN.out; have := HN2.out; have := HKN.out; omega)
            have v3 : IntKind.i64.wrap ((k : Int) + 1) = (k : Int) + 1 := by rw [w64]; unfold wrap64; have := HKN.out; have := HN2.out; omega
            rcases hbm with ⟨hjm, rfl⟩ | rfl
            · have hjm1 : (j : Int) < m := by omega
              clear hjm
              go_wp2_with (at_builtin; refine Kd.R_append kT (w0 := w) b rfl (.tmp 71) (.tmp 73) 22 44 (.agg #[.string ⟨#[]⟩, .int .i64 0, .slice none 0 0]) 48 rfl Try.underlying22 infoT rfl (by decide) (by omega) u5 acc ⟨nm, sz, ac2⟩ [.string nm, .int .i64 sz, v] (fun _ => True) (fun q => g < q) rfl rfl haP.out haK.out haF.out haO.out haB.out haS.out haL.out ?_; intro v1 w1 hR1 hB1 hg1 hat1; have hHR1 := hide hR1; have hHB1 := hide hB1; have hHg1 := hide hg1; clear hR1 hB1 hg1 hat1)
              go_roundw
              case rel =>
                have hne : ¬ (some b = u5.ownBlock) := Kd.R_ne haO.out HS.out.v (by decide)
                refine ⟨k + 1, ⟨ys, true⟩, acc ++ [⟨nm, sz, ac2⟩], by have := HKN.out; omega, by rw [show (((k + 1 : Nat)) : Int) = (k : Int) + 1 by omega], ?_, HS.out.v.turned (Turned.grown (S := fun k => some k = u5.ownBlock) hHg1.out (fun k e => e.symm)) hne, hHR1.out, by rw [List.length_append, List.length_singleton, HLN.out], hHB1.out⟩
                rcases hres.out with ⟨h1, h2⟩ | ⟨h1, h2⟩
                · refine .inl ⟨h1, ?_⟩
                  have e1 := hdt1.out
                  rw [h2] at e1
                  rw [show n - (k + 1) = n - k - 1 by omega]
                  exact e1
                · refine .inr ⟨h1, ?_⟩
                  rw [← hdt1.out]
                  exact dTypes_bad _ _ h2
              case measure => have := HKN.out; simp [intOf]; omega
            · go_wp2_with (at_builtin; refine Kd.R_append kT (w0 := w) b rfl (.tmp 71) (.tmp 73) 22 44 (.agg #[.string ⟨#[]⟩, .int .i64 0, .slice none 0 0]) 48 rfl Try.underlying22 infoT rfl (by decide) (by omega) u5 acc ⟨nm, sz, ac2⟩ [.string nm, .int .i64 sz, v] (fun _ => True) (fun q => g < q) rfl rfl haP.out haK.out haF.out haO.out haB.out haS.out haL.out ?_; intro v1 w1 hR1 hB1 hg1 hat1; have hHR1 := hide hR1; have hHB1 := hide hB1; have hHg1 := hide hg1; clear hR1 hB1 hg1 hat1)
              go_roundw
              case rel =>
                have hne : ¬ (some b = u5.ownBlock) := Kd.R_ne haO.out HS.out.v (by decide)
                refine ⟨k + 1, ⟨ys, bad⟩, acc ++ [⟨nm, sz, ac2⟩], by have := HKN.out; omega, by rw [show (((k + 1 : Nat)) : Int) = (k : Int) + 1 by omega], ?_, HS.out.v.turned (Turned.grown (S := fun k => some k = u5.ownBlock) hHg1.out (fun k e => e.symm)) hne, hHR1.out, by rw [List.length_append, List.length_singleton, HLN.out], hHB1.out⟩
                rcases hres.out with ⟨h1, h2⟩ | ⟨h1, h2⟩
                · refine .inl ⟨h1, ?_⟩
                  have e1 := hdt1.out
                  rw [h2] at e1
                  rw [show n - (k + 1) = n - k - 1 by omega]
                  exact e1
                · refine .inr ⟨h1, ?_⟩
                  rw [← hdt1.out]
                  exact dTypes_bad _ _ h2
              case measure => have := HKN.out; simp [intOf]; omega
    · obtain rfl : k = n := by omega
      clear hkn hk
      cases bad with
      | true =>
        have hRb : Hid (R.2.bad = true) := hide (by rcases HDT.out with ⟨h, _⟩ | ⟨_, h⟩; cases h; exact h)
        clear HDT
        go_wp2_with fail
        go_ret2
        have e := hdec.out
        rw [hRb.out, Bool.true_or, if_pos rfl] at e
        rw [e]
        exact ⟨_, rfl, Kd.R_nil _ _ _ _ _, by rw [HB.out]; exact HW.out⟩
      | false =>
        have hRR : Hid (R = (acc, ⟨xs, false⟩)) := hide (by rcases HDT.out with ⟨_, h⟩ | ⟨h, _⟩; rw [Nat.sub_self] at h; exact h.symm; cases h)
        clear HDT
        cases hs : (xs.toList == []) with
        | true =>
          have hs2 : (xs.toList != []) = false := by simp only [bne, hs, Bool.not_true]
          go_wp2_with fail
          go_ret2
          have e := hdec.out
          rw [hRR.out] at e
          simp only [hs, Bool.not_true, Bool.or_false] at e
          rw [if_neg (by simp)] at e
          rw [e]
          exact ⟨_, rfl, by rw [HB.out]; exact HL.out, by rw [HB.out]; exact HW.out⟩
        | false =>
          have hs2 : (xs.toList != []) = true := by simp only [bne, hs, Bool.not_false]
          go_wp2_with fail
          go_ret2
          have e := hdec.out
          rw [hRR.out] at e
          simp only [hs, Bool.not_false, Bool.or_true, if_true] at e
          rw [e]
          exact ⟨_, rfl, Kd.R_nil _ _ _ _ _, by rw [HB.out]; exact HW.out⟩
end Go.Proofs.Ytkflofjcjolehaa

/-! Types: the document's Encode. -/
namespace Go.Proofs.Ytkflofjcjolehaa
open Go.RowKit Go.Proofs.YtkflofjcjolehaaW.PrintWords
set_option maxHeartbeats 40000000
set_option maxRecDepth 100000
set_option linter.unusedSimpArgs false
set_option linter.unusedVariables false

def smB (x : Int) : Bool := decide (0 ≤ x) && decide (x ≤ 255)
theorem smB_le {x : Int} (h : smB x = true) : 0 ≤ x ∧ x ≤ 255 := by unfold smB at h; simp at h; exact h
theorem smB_no {x : Int} (h : smB x = false) : ¬ (0 ≤ x ∧ x ≤ 255) := by unfold smB at h; simp at h; omega
theorem rs_small (w : World) (x : Int) : Calls Try.prog 31 #[.int .i64 x] w fun e w' => e = .returned (.bool (smB x)) ∧ w' = w := by
  unfold smB
  cases h1 : decide (0 ≤ x) with
  | false =>
    go_enter Try.func31, Try.ntmps31
    go_wp2_with fail
    go_ret
    exact ⟨rfl, rfl⟩
  | true =>
    go_enter Try.func31, Try.ntmps31
    go_wp2_with fail
    go_ret
    exact ⟨rfl, rfl⟩

theorem cv1 (W : World) (b : Nat) (hb : W.heap.size = b) (x : Int) : Sem.run Try.prog (convert 41 9 (.slice (some ⟨b, 0, none⟩) 1 1)) (W.alloc (.cells #[.int .u8 x] 5)) = .ok (.string (strOfNums [x])) (W.alloc (.cells #[.int .u8 x] 5)) := by
  subst hb
  exact own_string (base := W.heap.size) (e' := 5) Try.underlying41 Try.underlying5 Try.underlying9 (World.ownsRow_lit (size := 1) W #[.int .u8 x] 1 (Nat.le_refl _) (by unfold maxLen; omega) rfl)
theorem cv2 (W : World) (b : Nat) (hb : W.heap.size = b) (x y : Int) : Sem.run Try.prog (convert 41 9 (.slice (some ⟨b, 0, none⟩) 2 2)) (W.alloc (.cells #[.int .u8 x, .int .u8 y] 5)) = .ok (.string (strOfNums [x, y])) (W.alloc (.cells #[.int .u8 x, .int .u8 y] 5)) := by
  subst hb
  exact own_string (base := W.heap.size) (e' := 5) Try.underlying41 Try.underlying5 Try.underlying9 (World.ownsRow_lit (size := 1) W #[.int .u8 x, .int .u8 y] 2 (Nat.le_refl _) (by unfold maxLen; omega) rfl)
theorem cv4 (W : World) (b : Nat) (hb : W.heap.size = b) (x y z u : Int) : Sem.run Try.prog (convert 41 9 (.slice (some ⟨b, 0, none⟩) 4 4)) (W.alloc (.cells #[.int .u8 x, .int .u8 y, .int .u8 z, .int .u8 u] 5)) = .ok (.string (strOfNums [x, y, z, u])) (W.alloc (.cells #[.int .u8 x, .int .u8 y, .int .u8 z, .int .u8 u] 5)) := by
  subst hb
  exact own_string (base := W.heap.size) (e' := 5) Try.underlying41 Try.underlying5 Try.underlying9 (World.ownsRow_lit (size := 1) W #[.int .u8 x, .int .u8 y, .int .u8 z, .int .u8 u] 4 (Nat.le_refl _) (by unfold maxLen; omega) rfl)
theorem u8_id {x : Int} (h : 0 ≤ x ∧ x ≤ 255) : IntKind.u8.wrap x = x := by unfold IntKind.wrap; simp [IntKind.bits, IntKind.signed]; omega
theorem str_put : ∀ {l : List Int}, (∀ x ∈ l, 0 ≤ x ∧ x ≤ 255) → strOfNums l = putS l
  | l, h => by
    unfold putS
    congr 1
    conv => lhs; rw [← List.map_id l]
    refine List.map_congr_left (fun x hx => ?_)
    have := h x hx
    show x = x % 256
    omega

def encR : Option ByteArray → ByteArray × Int
  | some s => (s, 0)
  | none => (⟨#[]⟩, 2)

theorem rd_encode (w : World) (A : Option Addr) (c : Nat) (l : List Tp) (n : Nat) (hl : l.length = n) (hC : kT.C w A n l) (hok : okTps l = true) :
    Calls Try.prog 13 #[.slice A n c] w fun e w' => e = .returned (.tuple #[.string (encodeF l).1, .int .i64 (encodeF l).2]) ∧ Below w.heap.size w w' := by
  have HL := hide hl
  have HC := hide hC
  have HOK := hide hok
  by_cases hn : n > 255
  · have he : encodeF l = (⟨#[]⟩, 2) := by
      unfold encodeF
      rw [if_neg]
      intro h
      have := (smallL_all h (l.length : Int) (by simp)).2
      omega
    rw [he]
    have d1 : decide ((n : Int) > 255) = true := decide_eq_true (by omega)
    clear hl hC hok hn he
    go_enter Try.func13, Try.ntmps13
    go_wp2_with fail
    go_ret2
    exact ⟨rfl, Below.refl _ _⟩
  have d1 : decide ((n : Int) > 255) = false := decide_eq_false (by omega)
  have un : IntKind.u8.wrap (n : Int) = n := u8_id (by omega)
  have hcv := cv1 w w.heap.size rfl (n : Int)
  obtain ⟨R, hR⟩ : ∃ R, encTps l (putS [(n : Int)]) = R := ⟨_, rfl⟩
  have HENC : Hid (encodeF l = encR R) := hide (by
    unfold encodeF
    rw [hl, if_pos (smallL_of (fun x hx => by simp only [List.mem_cons, List.not_mem_nil, or_false] at hx; omega)), hR]
    cases R <;> rfl)
  rw [str_put (l := [(n : Int)]) (fun x hx => by simp only [List.mem_cons, List.not_mem_nil, or_false] at hx; omega)] at hcv
  obtain ⟨s0, hs0⟩ : ∃ s0, putS [(n : Int)] = s0 := ⟨_, rfl⟩
  have hz0 : s0.size = 1 := by rw [← hs0, putS_size]; rfl
  rw [hs0] at hcv hR
  have HR := hide hR
  have HZ0 := hide hz0
  have HN := hide (show n ≤ 255 by omega)
  have HB0 := hide (below_box w (.cells #[.int .u8 (n : Int)] 5))
  clear hl hC hok hn hR hs0 hz0
  go_enter Try.func13, Try.ntmps13
  go_wp2_with fail
  go_loopw [4, 5] (fun sv i wr => ∃ (k : Nat) (sa : ByteArray), k ≤ n ∧ i = .int .i64 k ∧ sv = .string sa ∧ encTps (l.drop k) sa = R ∧ sa.size ≤ 1 + k * 70000 ∧ Below w.heap.size w wr) (fun _ i _ => n - (intOf i).toNat)
  case atStart => exact ⟨0, s0, Nat.zero_le _, rfl, rfl, HR.out, by have := HZ0.out; omega, HB0.out⟩
  case round =>
    clear HR HZ0 HB0 hcv un
    obtain ⟨k, sa, hk, rfl, rfl, hE, hsz, hB⟩ := hrel
    have HB := hide hB
    have HE := hide hE
    have HSZ := hide hsz
    clear hB hE hsz
    by_cases hkn : k < n
    · have hk1 : (k : Int) < n := by omega
      have hk0 : (0 : Int) ≤ k := by omega
      have v3 : IntKind.i64.wrap ((k : Int) + 1) = (k : Int) + 1 := by rw [w64]; unfold wrap64; have := HN.out; omega
      obtain ⟨t, ht⟩ : ∃ t, l[k]? = some t := ⟨_, List.getElem?_eq_getElem (by rw [HL.out]; exact hkn)⟩
      have hdr : l.drop k = t :: l.drop (k + 1) := by rw [List.drop_eq_getElem_cons (by rw [HL.out]; exact hkn)]; congr 1; exact (List.getElem?_eq_some_iff.1 ht).2
      have hE := HE.out
      rw [hdr] at hE
      unfold encTps at hE
      have HOT := hide (okTp_nm (List.all_eq_true.1 (by have := HOK.out; unfold okTps at this; rw [Bool.and_eq_true] at this; exact this.2) t (List.mem_of_getElem? ht)))
      obtain ⟨cb, off, A2, c2, rfl, e0, e1, e2, hl2, hF⟩ := tp_at HC.out HB.out ht
      obtain ⟨N, hN⟩ : ∃ N, t.fs.length = N := ⟨_, rfl⟩
      obtain ⟨nm, hnm⟩ : ∃ nm, t.nm = nm := ⟨_, rfl⟩
      obtain ⟨sz, hsz2⟩ : ∃ sz, t.sz = sz := ⟨_, rfl⟩
      obtain ⟨fs, hfs⟩ : ∃ fs, t.fs = fs := ⟨_, rfl⟩
      have hhd : encHd t = if smallL [(nm.size : Int), sz, (N : Int)] = true then some (putS [(nm.size : Int)] ++ nm ++ putS [sz, (N : Int)]) else none := by unfold encHd; rw [hnm, hsz2, hN]
      rw [hnm] at e0
      rw [hsz2] at e1
      rw [hN] at e2 hF
      rw [hfs] at hF hE HOT hN
      have HF := hide hF
      have HFN := hide hN
      have HKN := hide hkn
      have HEE := hide hE
      have HHD := hide hhd
      obtain ⟨g, hg⟩ : ∃ g, wr.heap.size = g := ⟨_, rfl⟩
      obtain ⟨W, hW⟩ : ∃ W, wr.alloc (.cells #[.string nm, .int .i64 sz, .slice A2 N c2] 44) = W := ⟨_, rfl⟩
      have hgW : Has W g 44 #[.string nm, .int .i64 sz, .slice A2 N c2] := by rw [← hW, ← hg]; exact Has.new _ _ _
      have HBW := hide (show Below w.heap.size w W by rw [← hW]; exact bel_trans HB.out (below_box wr _))
      have hWz : W.heap.size = g + 1 := by rw [← hW, ← hg]; simp
      have g0 := hgW.cell 0
      have g1 := hgW.cell 1
      have g2 := hgW.cell 2
      simp at g0 g1 g2
      have HGW := hide hgW
      have HWZ := hide hWz
      have HW := hide hW
      have HG := hide hg
      clear hE hhd hgW hWz hW hg hF hN hkn hk hdr ht hnm hsz2 hfs hl2 HE HB
      cases q1 : smB (nm.size : Int) with
      | false =>
        have hs : ¬ smallL [(nm.size : Int), sz, (N : Int)] = true := fun h => smB_no q1 (smallL_all h (nm.size : Int) (by simp))
        have hR : R = none := by rw [← HEE.out, HHD.out, if_neg hs]; rfl
        have HR := hide hR
        clear hs hR
        go_wp2_with fail
        rw [HW.out, HG.out]
        refine (rs_small _ _).mono ?_
        rintro e w1 ⟨rfl, rfl⟩
        rw [q1]
        go_wp2_with fail
        go_ret2
        rw [HENC.out, HR.out]
        exact ⟨rfl, HBW.out⟩
      | true =>
        cases q2 : smB sz with
        | false =>
          have hs : ¬ smallL [(nm.size : Int), sz, (N : Int)] = true := fun h => smB_no q2 (smallL_all h sz (by simp))
          have hR : R = none := by rw [← HEE.out, HHD.out, if_neg hs]; rfl
          have HR := hide hR
          clear hs hR
          go_wp2_with fail
          rw [HW.out, HG.out]
          refine (rs_small _ _).mono ?_
          rintro e w1 ⟨rfl, rfl⟩
          rw [q1]
          go_wp2_with fail
          refine (rs_small _ _).mono ?_
          rintro e w2 ⟨rfl, rfl⟩
          rw [q2]
          go_wp2_with fail
          go_ret2
          rw [HENC.out, HR.out]
          exact ⟨rfl, HBW.out⟩
        | true =>
          cases q3 : smB (N : Int) with
          | false =>
            have hs : ¬ smallL [(nm.size : Int), sz, (N : Int)] = true := fun h => smB_no q3 (smallL_all h (N : Int) (by simp))
            have hR : R = none := by rw [← HEE.out, HHD.out, if_neg hs]; rfl
            have HR := hide hR
            clear hs hR
            go_wp2_with fail
            rw [HW.out, HG.out]
            refine (rs_small _ _).mono ?_
            rintro e w1 ⟨rfl, rfl⟩
            rw [q1]
            go_wp2_with fail
            refine (rs_small _ _).mono ?_
            rintro e w2 ⟨rfl, rfl⟩
            rw [q2]
            go_wp2_with fail
            refine (rs_small _ _).mono ?_
            rintro e w3 ⟨rfl, rfl⟩
            rw [q3]
            go_wp2_with fail
            go_ret2
            rw [HENC.out, HR.out]
            exact ⟨rfl, HBW.out⟩
          | true =>
            have b1 := smB_le q1
            have b2 := smB_le q2
            have b3 := smB_le q3
            have z1 : IntKind.u8.wrap (nm.size : Int) = (nm.size : Int) := u8_id b1
            have z2 : IntKind.u8.wrap sz = sz := u8_id b2
            have z3 : IntKind.u8.wrap (N : Int) = (N : Int) := u8_id b3
            have hcv1 := cv1 W W.heap.size rfl (nm.size : Int)
            have hcv2 := cv2 (W.alloc (.cells #[.int .u8 (nm.size : Int)] 5)) (W.heap.size + 1) (by simp) sz (N : Int)
            rw [str_put (l := [(nm.size : Int)]) (fun x hx => by simp only [List.mem_cons, List.not_mem_nil, or_false] at hx; omega)] at hcv1
            rw [str_put (l := [sz, (N : Int)]) (fun x hx => by simp only [List.mem_cons, List.not_mem_nil, or_false] at hx; omega)] at hcv2
            have hs : smallL [(nm.size : Int), sz, (N : Int)] = true := smallL_of (fun x hx => by simp only [List.mem_cons, List.not_mem_nil, or_false] at hx; omega)
            have hE := HEE.out
            rw [HHD.out, if_pos hs, Option.bind_some] at hE
            obtain ⟨X1, hX1⟩ : ∃ X, putS [(nm.size : Int)] = X := ⟨_, rfl⟩
            obtain ⟨X2, hX2⟩ : ∃ X, putS [sz, (N : Int)] = X := ⟨_, rfl⟩
            have y1 : X1.size = 1 := by rw [← hX1, putS_size]; rfl
            have y2 : X2.size = 2 := by rw [← hX2, putS_size]; rfl
            rw [hX1] at hcv1 hE
            rw [hX2] at hcv2 hE
            have hsz := HSZ.out
            have hn255 := HN.out
            have hkn := HKN.out
            have B1 : ¬ (9223372036854775807 < sa.size + X1.size) := by omega
            have B2 : ¬ (9223372036854775807 < (sa ++ X1).size + nm.size) := by rw [ByteArray.size_append]; omega
            have B3 : ¬ (9223372036854775807 < (sa ++ X1 ++ nm).size + X2.size) := by rw [ByteArray.size_append, ByteArray.size_append]; omega
            have C1 : sa.size + X1.size ≤ 9223372036854775807 := by omega
            have C2 : sa.size + X1.size + nm.size ≤ 9223372036854775807 := by omega
            have C3 : sa.size + X1.size + nm.size + X2.size ≤ 9223372036854775807 := by omega
            have HSB : Hid ((sa ++ X1 ++ nm ++ X2).size ≤ 1 + k * 70000 + 300) := hide (by simp only [ByteArray.size_append]; omega)
            have HN255 : Hid (N ≤ 255) := hide (by omega)
            have HE2 : Hid (((encFls fs (sa ++ X1 ++ nm ++ X2)).bind fun y => encTps (l.drop (k + 1)) y) = R) := hide (by simpa only [ByteArray.append_assoc] using hE)
            have HGX := hide ((HGW.out.alloc (.cells #[.int .u8 (nm.size : Int)] 5)).alloc (.cells #[.int .u8 sz, .int .u8 (N : Int)] 5))
            have HBX := hide (bel_trans HBW.out (bel_trans (below_box W (.cells #[.int .u8 (nm.size : Int)] 5)) (below_box _ (.cells #[.int .u8 sz, .int .u8 (N : Int)] 5))))
            have g0a := cell_on g0 (.cells #[.int .u8 (nm.size : Int)] 5)
            have g1a := cell_on g1 (.cells #[.int .u8 (nm.size : Int)] 5)
            have g2a := cell_on g2 (.cells #[.int .u8 (nm.size : Int)] 5)
            clear hs hE hX1 hX2 y1 y2 hsz hn255 hkn b1 b2 b3 HEE HHD HSZ
            go_wp2_with fail
            rw [HW.out, HG.out]
            refine (rs_small _ _).mono ?_
            rintro e w1 ⟨rfl, rfl⟩
            rw [q1]
            go_wp2_with fail
            refine (rs_small _ _).mono ?_
            rintro e w2 ⟨rfl, rfl⟩
            rw [q2]
            go_wp2_with fail
            refine (rs_small _ _).mono ?_
            rintro e w3 ⟨rfl, rfl⟩
            rw [q3]
            go_wp2_with fail
            go_loopw [4, 7] (fun sv i wi => ∃ (j : Nat) (sb : ByteArray), j ≤ N ∧ i = .int .i64 j ∧ sv = .string sb ∧ ((encFls (fs.drop j) sb).bind fun y => encTps (l.drop (k + 1)) y) = R ∧ sb.size ≤ 1 + k * 70000 + 300 + j * 260 ∧ Has wi g 44 #[.string nm, .int .i64 sz, .slice A2 N c2] ∧ Below w.heap.size w wi) (fun _ i _ => N - (intOf i).toNat)
            case atStart => exact ⟨0, _, Nat.zero_le _, rfl, rfl, HE2.out, by have := HSB.out; omega, HGX.out, HBX.out⟩
            case round =>
              clear HE2 HSB HGX HBX hcv1 hcv2 B1 B2 B3 C1 C2 C3 z1 z2 z3 q1 q2 q3 g0 g1 g2 g0a g1a g2a e0 e1 e2
              obtain ⟨j, sb, hj, rfl, rfl, hE, hsz, hH, hB⟩ := hrel
              have g2 := hH.cell 2
              simp at g2
              have HH := hide hH
              have HB := hide hB
              have HE := hide hE
              have HSZ := hide hsz
              clear hB hE hsz hH
              by_cases hjn : j < N
              · have hj1 : (j : Int) < N := by omega
                have hj0 : (0 : Int) ≤ j := by omega
                have v4 : IntKind.i64.wrap ((j : Int) + 1) = (j : Int) + 1 := by rw [w64]; unfold wrap64; have := HN255.out; omega
                obtain ⟨f, hf⟩ : ∃ f, fs[j]? = some f := ⟨_, List.getElem?_eq_getElem (by rw [HFN.out]; exact hjn)⟩
                have hdr : fs.drop j = f :: fs.drop (j + 1) := by rw [List.drop_eq_getElem_cons (by rw [HFN.out]; exact hjn)]; congr 1; exact (List.getElem?_eq_some_iff.1 hf).2
                have hE := HE.out
                rw [hdr] at hE
                unfold encFls at hE
                have hkd := (okFl_nm (HOT.out.2.2 f (List.mem_of_getElem? hf))).2
                obtain ⟨fb, fo, rfl, e0, e1, e2, e3, e4⟩ := fl_at HF.out HB.out hf
                obtain ⟨fn, hfn⟩ : ∃ x, f.nm = x := ⟨_, rfl⟩
                obtain ⟨kd, hkd2⟩ : ∃ x, f.kd = x := ⟨_, rfl⟩
                obtain ⟨pl, hpl⟩ : ∃ x, f.at_ = x := ⟨_, rfl⟩
                obtain ⟨fof, hfof⟩ : ∃ x, f.of = x := ⟨_, rfl⟩
                obtain ⟨nd, hnd⟩ : ∃ x, f.node = x := ⟨_, rfl⟩
                have hfl : encFl f = if smallL [(fn.size : Int), pl, fof, nd] = true then some (putS [(fn.size : Int)] ++ fn ++ putS [kd, pl, fof, nd]) else none := by unfold encFl; rw [hfn, hkd2, hpl, hfof, hnd]
                rw [hfn] at e0
                rw [hkd2] at e1 hkd
                rw [hpl] at e2
                rw [hfof] at e3
                rw [hnd] at e4
                have HJN := hide hjn
                have HEE := hide hE
                have HFL := hide hfl
                obtain ⟨h, hh⟩ : ∃ h, wr.heap.size = h := ⟨_, rfl⟩
                obtain ⟨V, hV⟩ : ∃ V, wr.alloc (.cells #[.string fn, .int .u8 kd, .int .i64 pl, .int .i64 fof, .int .i64 nd] 46) = V := ⟨_, rfl⟩
                have hhV : Has V h 46 #[.string fn, .int .u8 kd, .int .i64 pl, .int .i64 fof, .int .i64 nd] := by rw [← hV, ← hh]; exact Has.new _ _ _
                have HBV := hide (show Below w.heap.size w V by rw [← hV]; exact bel_trans HB.out (below_box wr _))
                have HGV := hide (show Has V g 44 #[.string nm, .int .i64 sz, .slice (some ⟨fb, fo, none⟩) N c2] by rw [← hV]; exact HH.out.alloc _)
                have h0 := hhV.cell 0
                have h1 := hhV.cell 1
                have h2 := hhV.cell 2
                have h3 := hhV.cell 3
                have h4 := hhV.cell 4
                simp at h0 h1 h2 h3 h4
                have HV := hide hV
                have HHS := hide hh
                clear hE hfl hhV hV hh hjn hj hdr hf hfn hkd2 hpl hfof hnd HE HB HH
                cases r1 : smB (fn.size : Int) with
                | false =>
                  have hs : ¬ smallL [(fn.size : Int), pl, fof, nd] = true := fun h => smB_no r1 (smallL_all h (fn.size : Int) (by simp))
                  have hR : R = none := by rw [← HEE.out, HFL.out, if_neg hs]; rfl
                  have HR := hide hR
                  clear hs hR
                  go_wp2_with fail
                  rw [HV.out, HHS.out]
                  refine (rs_small _ _).mono ?_
                  rintro e x1 ⟨rfl, rfl⟩
                  rw [r1]
                  go_wp2_with fail
                  go_ret2
                  rw [HENC.out, HR.out]
                  exact ⟨rfl, HBV.out⟩
                | true =>
                  cases r2 : smB pl with
                  | false =>
                    have hs : ¬ smallL [(fn.size : Int), pl, fof, nd] = true := fun h => smB_no r2 (smallL_all h pl (by simp))
                    have hR : R = none := by rw [← HEE.out, HFL.out, if_neg hs]; rfl
                    have HR := hide hR
                    clear hs hR
                    go_wp2_with fail
                    rw [HV.out, HHS.out]
                    refine (rs_small _ _).mono ?_
                    rintro e x1 ⟨rfl, rfl⟩
                    rw [r1]
                    go_wp2_with fail
                    refine (rs_small _ _).mono ?_
                    rintro e x2 ⟨rfl, rfl⟩
                    rw [r2]
                    go_wp2_with fail
                    go_ret2
                    rw [HENC.out, HR.out]
                    exact ⟨rfl, HBV.out⟩
                  | true =>
                    cases r3 : smB fof with
                    | false =>
                      have hs : ¬ smallL [(fn.size : Int), pl, fof, nd] = true := fun h => smB_no r3 (smallL_all h fof (by simp))
                      have hR : R = none := by rw [← HEE.out, HFL.out, if_neg hs]; rfl
                      have HR := hide hR
                      clear hs hR
                      go_wp2_with fail
                      rw [HV.out, HHS.out]
                      refine (rs_small _ _).mono ?_
                      rintro e x1 ⟨rfl, rfl⟩
                      rw [r1]
                      go_wp2_with fail
                      refine (rs_small _ _).mono ?_
                      rintro e x2 ⟨rfl, rfl⟩
                      rw [r2]
                      go_wp2_with fail
                      refine (rs_small _ _).mono ?_
                      rintro e x3 ⟨rfl, rfl⟩
                      rw [r3]
                      go_wp2_with fail
                      go_ret2
                      rw [HENC.out, HR.out]
                      exact ⟨rfl, HBV.out⟩
                    | true =>
                      cases r4 : smB nd with
                      | false =>
                        have hs : ¬ smallL [(fn.size : Int), pl, fof, nd] = true := fun h => smB_no r4 (smallL_all h nd (by simp))
                        have hR : R = none := by rw [← HEE.out, HFL.out, if_neg hs]; rfl
                        have HR := hide hR
                        clear hs hR
                        go_wp2_with fail
                        rw [HV.out, HHS.out]
                        refine (rs_small _ _).mono ?_
                        rintro e x1 ⟨rfl, rfl⟩
                        rw [r1]
                        go_wp2_with fail
                        refine (rs_small _ _).mono ?_
                        rintro e x2 ⟨rfl, rfl⟩
                        rw [r2]
                        go_wp2_with fail
                        refine (rs_small _ _).mono ?_
                        rintro e x3 ⟨rfl, rfl⟩
                        rw [r3]
                        go_wp2_with fail
                        refine (rs_small _ _).mono ?_
                        rintro e x4 ⟨rfl, rfl⟩
                        rw [r4]
                        go_wp2_with fail
                        go_ret2
                        rw [HENC.out, HR.out]
                        exact ⟨rfl, HBV.out⟩
                      | true =>
                        have b1 := smB_le r1
                        have b2 := smB_le r2
                        have b3 := smB_le r3
                        have b4 := smB_le r4
                        have z1 : IntKind.u8.wrap (fn.size : Int) = (fn.size : Int) := u8_id b1
                        have z2 : IntKind.u8.wrap pl = pl := u8_id b2
                        have z3 : IntKind.u8.wrap fof = fof := u8_id b3
                        have z4 : IntKind.u8.wrap nd = nd := u8_id b4
                        have hcv1 := cv1 V V.heap.size rfl (fn.size : Int)
                        have hcv2 := cv4 (V.alloc (.cells #[.int .u8 (fn.size : Int)] 5)) (V.heap.size + 1) (by simp) kd pl fof nd
                        rw [str_put (l := [(fn.size : Int)]) (fun x hx => by simp only [List.mem_cons, List.not_mem_nil, or_false] at hx; omega)] at hcv1
                        rw [str_put (l := [kd, pl, fof, nd]) (fun x hx => by simp only [List.mem_cons, List.not_mem_nil, or_false] at hx; omega)] at hcv2
                        have hs : smallL [(fn.size : Int), pl, fof, nd] = true := smallL_of (fun x hx => by simp only [List.mem_cons, List.not_mem_nil, or_false] at hx; omega)
                        have hE := HEE.out
                        rw [HFL.out, if_pos hs, Option.bind_some] at hE
                        obtain ⟨X1, hX1⟩ : ∃ X, putS [(fn.size : Int)] = X := ⟨_, rfl⟩
                        obtain ⟨X2, hX2⟩ : ∃ X, putS [kd, pl, fof, nd] = X := ⟨_, rfl⟩
                        have y1 : X1.size = 1 := by rw [← hX1, putS_size]; rfl
                        have y2 : X2.size = 4 := by rw [← hX2, putS_size]; rfl
                        rw [hX1] at hcv1 hE
                        rw [hX2] at hcv2 hE
                        have hsz := HSZ.out
                        have hn255 := HN.out
                        have hkn := HKN.out
                        have hjn := HJN.out
                        have hnn := HN255.out
                        have B1 : ¬ (9223372036854775807 < sb.size + X1.size) := by omega
                        have B2 : ¬ (9223372036854775807 < (sb ++ X1).size + fn.size) := by rw [ByteArray.size_append]; omega
                        have B3 : ¬ (9223372036854775807 < (sb ++ X1 ++ fn).size + X2.size) := by rw [ByteArray.size_append, ByteArray.size_append]; omega
                        have C1 : sb.size + X1.size ≤ 9223372036854775807 := by omega
                        have C2 : sb.size + X1.size + fn.size ≤ 9223372036854775807 := by omega
                        have C3 : sb.size + X1.size + fn.size + X2.size ≤ 9223372036854775807 := by omega
                        have HSB : Hid ((sb ++ X1 ++ fn ++ X2).size ≤ 1 + k * 70000 + 300 + (j + 1) * 260) := hide (by simp only [ByteArray.size_append]; omega)
                        have HE2 : Hid (((encFls (fs.drop (j + 1)) (sb ++ X1 ++ fn ++ X2)).bind fun y => encTps (l.drop (k + 1)) y) = R) := hide (by simpa only [ByteArray.append_assoc] using hE)
                        have HGX := hide ((HGV.out.alloc (.cells #[.int .u8 (fn.size : Int)] 5)).alloc (.cells #[.int .u8 kd, .int .u8 pl, .int .u8 fof, .int .u8 nd] 5))
                        have HBX := hide (bel_trans HBV.out (bel_trans (below_box V (.cells #[.int .u8 (fn.size : Int)] 5)) (below_box _ (.cells #[.int .u8 kd, .int .u8 pl, .int .u8 fof, .int .u8 nd] 5))))
                        have h0a := cell_on h0 (.cells #[.int .u8 (fn.size : Int)] 5)
                        have h1a := cell_on h1 (.cells #[.int .u8 (fn.size : Int)] 5)
                        have h2a := cell_on h2 (.cells #[.int .u8 (fn.size : Int)] 5)
                        have h3a := cell_on h3 (.cells #[.int .u8 (fn.size : Int)] 5)
                        have h4a := cell_on h4 (.cells #[.int .u8 (fn.size : Int)] 5)
                        clear hs hE hX1 hX2 y1 y2 hsz hn255 hkn hjn hnn b1 b2 b3 b4 HEE HFL HSZ
                        go_wp2_with fail
                        rw [HV.out, HHS.out]
                        refine (rs_small _ _).mono ?_
                        rintro e x1 ⟨rfl, rfl⟩
                        rw [r1]
                        go_wp2_with fail
                        refine (rs_small _ _).mono ?_
                        rintro e x2 ⟨rfl, rfl⟩
                        rw [r2]
                        go_wp2_with fail
                        refine (rs_small _ _).mono ?_
                        rintro e x3 ⟨rfl, rfl⟩
                        rw [r3]
                        go_wp2_with fail
                        refine (rs_small _ _).mono ?_
                        rintro e x4 ⟨rfl, rfl⟩
                        rw [r4]
                        go_wp2_with fail
                        go_roundw
                        case rel => exact ⟨j + 1, _, by have := HJN.out; omega, by rw [show (((j + 1 : Nat)) : Int) = (j : Int) + 1 by omega], rfl, HE2.out, HSB.out, HGX.out, HBX.out⟩
                        case measure => have := HJN.out; simp [intOf]; omega
              · obtain rfl : j = N := by omega
                have he : encTps (l.drop (k + 1)) sb = R := by have := HE.out; rw [List.drop_of_length_le (by rw [HFN.out]; exact Nat.le_refl _)] at this; exact this
                have HE3 := hide he
                clear he hjn hj
                go_wp2_with fail
                go_roundw
                case rel => exact ⟨k + 1, sb, by have := HKN.out; omega, by rw [show (((k + 1 : Nat)) : Int) = (k : Int) + 1 by omega], rfl, HE3.out, by have := HSZ.out; have := HN255.out; omega, HB.out⟩
                case measure => have := HKN.out; simp [intOf]; omega
    · obtain rfl : k = n := by omega
      have he : R = some sa := by have := HE.out; rw [List.drop_of_length_le (by rw [HL.out]; exact Nat.le_refl _)] at this; exact this.symm
      have hk1 : decide ((k : Int) < k) = false := by simp
      clear hkn hk
      go_wp2_with fail
      go_ret2
      rw [HENC.out, he]
      exact ⟨rfl, HB.out⟩
end Go.Proofs.Ytkflofjcjolehaa
