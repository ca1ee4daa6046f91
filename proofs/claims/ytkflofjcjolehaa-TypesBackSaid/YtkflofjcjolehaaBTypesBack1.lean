/- Types: lemmas on what the functions that the laws reach answer. No conditions of their own beyond those that each theorem states. -/
import Derived.Test.YtkflofjcjolehaaBig13
/-! Types: a table's bytes, and what bytes are read as, in plain Lean. -/
namespace Go.Proofs.Ytkflofjcjolehaa
open Go.RowKit Go.Proofs.YtkflofjcjolehaaW.PrintWords
set_option linter.unusedSimpArgs false
set_option linter.unusedVariables false

theorem toList_same {a b : ByteArray} : a.toList = b.toList ↔ a = b := by
  rw [ByteArray.toList_eq, ByteArray.toList_eq]
  exact ⟨fun h => ByteArray.ext (Array.ext' h), fun h => by rw [h]⟩
theorem toList_none : (⟨#[]⟩ : ByteArray).toList = [] := by rw [ByteArray.toList_eq]
theorem smallL_of {l : List Int} (h : ∀ n ∈ l, 0 ≤ n ∧ n ≤ 255) : smallL l = true := by
  unfold smallL
  rw [Bool.not_eq_true', List.any_eq_false]
  intro n hn
  have := h n hn
  unfold noByte
  simp
  omega

theorem putS_one {n : Int} (h0 : 0 ≤ n) (h1 : n ≤ 255) : putS [n] = ⟨#[UInt8.ofNat n.toNat]⟩ := by
  unfold putS strOfNums
  simp [Int.emod_eq_of_lt h0 (show n < 256 by omega)]

theorem putS_cons (a : Int) (l : List Int) : putS (a :: l) = putS [a] ++ putS l := by
  unfold putS
  rw [List.map_cons, List.map_cons, List.map_nil, strOfNums_append]
  rfl
theorem putS_nil : putS [] = ⟨#[]⟩ := rfl

theorem bt_put {n : Int} (h0 : 0 ≤ n) (h1 : n ≤ 255) (z : ByteArray) : bt (putS [n] ++ z) 0 = n := by
  have hs : (0 : Int).toNat < (putS [n] ++ z).size := by rw [ByteArray.size_append, putS_size]; simp; omega
  unfold bt
  rw [dif_pos hs]
  have e : (putS [n] ++ z)[(0 : Int).toNat]'hs = UInt8.ofNat n.toNat := by
    rw [ByteArray.getElem_append_left (by rw [putS_size]; simp)]
    simp only [putS_one h0 h1]
    rfl
  rw [e]
  simp
  omega

theorem dNum_put {n : Int} (h0 : 0 ≤ n) (h1 : n ≤ 255) (z : ByteArray) : dNum ⟨putS [n] ++ z, false⟩ = (n, ⟨z, false⟩) := by
  have hs : (putS [n] ++ z).size = 1 + z.size := by rw [ByteArray.size_append, putS_size]; rfl
  unfold dNum
  rw [if_neg (by simp [hs]), bt_put h0 h1]
  congr 2
  exact ByteArray.extract_append_eq_right (by rw [putS_size]; rfl) (by rw [hs, putS_size]; rfl)

theorem dTake_put {n : Int} {t z : ByteArray} (h : n = t.size) : dTake n ⟨t ++ z, false⟩ = (t, ⟨z, false⟩) := by
  subst h
  unfold dTake
  rw [if_neg (by simp [ByteArray.size_append]; omega)]
  rw [Int.toNat_natCast, ByteArray.extract_append_eq_left rfl, ByteArray.extract_append_eq_right rfl (by rw [ByteArray.size_append])]

theorem dText_put {t z : ByteArray} (h : t.size ≤ 255) : dText ⟨putS [(t.size : Int)] ++ (t ++ z), false⟩ = (t, ⟨z, false⟩) := by
  unfold dText
  rw [dNum_put (by omega) (by omega)]
  exact dTake_put rfl

theorem dField_put {f : Fl} {y z : ByteArray} (hk : 0 ≤ f.kd ∧ f.kd ≤ 255) (h : encFl f = some y) : dField ⟨y ++ z, false⟩ = (f, ⟨z, false⟩) := by
  unfold encFl at h
  split at h
  · rename_i hs
    have b := smallL_all hs
    have b1 := b (f.nm.size : Int) (by simp)
    have b2 := b f.at_ (by simp)
    have b3 := b f.of (by simp)
    have b4 := b f.node (by simp)
    obtain rfl := Option.some.inj h
    rw [putS_cons f.kd, putS_cons f.at_, putS_cons f.of]
    simp only [ByteArray.append_assoc]
    unfold dField
    simp only [dText_put (show f.nm.size ≤ 255 by omega), dNum_put hk.1 hk.2, dNum_put b2.1 b2.2, dNum_put b3.1 b3.2, dNum_put b4.1 b4.2]
  · cases h

theorem dFields_put : ∀ (fs : List Fl) (s r : ByteArray), (∀ f ∈ fs, 0 ≤ f.kd ∧ f.kd ≤ 255) → encFls fs s = some r → ∃ y, r = s ++ y ∧ ∀ z acc, dFields fs.length ⟨y ++ z, false⟩ acc = (acc ++ fs, ⟨z, false⟩)
  | [], s, r, _, h => by
    obtain rfl := Option.some.inj h
    exact ⟨⟨#[]⟩, (ByteArray.append_empty).symm, fun z acc => by rw [show (⟨#[]⟩ : ByteArray) ++ z = z from ByteArray.empty_append]; simp [dFields]⟩
  | f :: fs, s, r, hk, h => by
    unfold encFls at h
    obtain ⟨x, hx, h⟩ := Option.bind_eq_some_iff.1 h
    obtain ⟨y, rfl, hy⟩ := dFields_put fs (s ++ x) r (fun g hg => hk g (List.mem_cons_of_mem _ hg)) h
    refine ⟨x ++ y, by rw [ByteArray.append_assoc], fun z acc => ?_⟩
    rw [List.length_cons]
    unfold dFields
    rw [if_neg (by simp), ByteArray.append_assoc, dField_put (hk f (List.mem_cons_self ..)) hx, hy]
    simp

theorem dType_put {t : Tp} {s hd r : ByteArray} (hk : ∀ f ∈ t.fs, 0 ≤ f.kd ∧ f.kd ≤ 255) (h : encHd t = some hd) (hf : encFls t.fs s = some r) : ∃ y, r = s ++ y ∧ ∀ z, dType ⟨hd ++ y ++ z, false⟩ = (t, ⟨z, false⟩) := by
  obtain ⟨y, rfl, hy⟩ := dFields_put t.fs s r hk hf
  refine ⟨y, rfl, fun z => ?_⟩
  unfold encHd at h
  split at h
  · rename_i hs
    have b := smallL_all hs
    have b1 := b (t.nm.size : Int) (by simp)
    have b2 := b t.sz (by simp)
    have b3 := b (t.fs.length : Int) (by simp)
    obtain rfl := Option.some.inj h
    rw [putS_cons t.sz]
    simp only [ByteArray.append_assoc]
    unfold dType
    simp only [dText_put (show t.nm.size ≤ 255 by omega), dNum_put b2.1 b2.2, dNum_put b3.1 b3.2, Int.toNat_natCast, hy, List.nil_append]
  · cases h

theorem dTypes_put : ∀ (l : List Tp) (s r : ByteArray), (∀ t ∈ l, ∀ f ∈ t.fs, 0 ≤ f.kd ∧ f.kd ≤ 255) → encTps l s = some r → ∃ y, r = s ++ y ∧ ∀ z acc, dTypes l.length ⟨y ++ z, false⟩ acc = (acc ++ l, ⟨z, false⟩)
  | [], s, r, _, h => by
    obtain rfl := Option.some.inj h
    exact ⟨⟨#[]⟩, (ByteArray.append_empty).symm, fun z acc => by rw [show (⟨#[]⟩ : ByteArray) ++ z = z from ByteArray.empty_append]; simp [dTypes]⟩
  | t :: l, s, r, hk, h => by
    unfold encTps at h
    obtain ⟨x, hx, h⟩ := Option.bind_eq_some_iff.1 h
    obtain ⟨r1, hr1, h⟩ := Option.bind_eq_some_iff.1 h
    obtain ⟨y1, rfl, hy1⟩ := dType_put (hk t (List.mem_cons_self ..)) hx hr1
    obtain ⟨y, rfl, hy⟩ := dTypes_put l _ r (fun g hg => hk g (List.mem_cons_of_mem _ hg)) h
    refine ⟨x ++ y1 ++ y, by simp only [ByteArray.append_assoc], fun z acc => ?_⟩
    rw [List.length_cons]
    unfold dTypes
    rw [if_neg (by simp), ByteArray.append_assoc, hy1, hy]
    simp

/-- A table's bytes, with others behind them: the table, and those are left. -/
theorem enc_reads {l : List Tp} (hk : ∀ t ∈ l, ∀ f ∈ t.fs, 0 ≤ f.kd ∧ f.kd ≤ 255) (h : (encodeF l).2 = 0) (z : ByteArray) :
    (dNum ⟨(encodeF l).1 ++ z, false⟩).1 = l.length ∧ dTypes l.length (dNum ⟨(encodeF l).1 ++ z, false⟩).2 [] = (l, ⟨z, false⟩) := by
  unfold encodeF at h ⊢
  split at h
  · rename_i hs
    rw [if_pos hs]
    have b := smallL_all hs (l.length : Int) (by simp)
    cases he : encTps l (putS [(l.length : Int)]) with
    | none => rw [he] at h; simp at h
    | some r =>
      obtain ⟨y, rfl, hy⟩ := dTypes_put l _ r hk he
      simp only [ByteArray.append_assoc]
      rw [dNum_put b.1 b.2]
      exact ⟨rfl, by rw [hy]; simp⟩
  · simp at h

theorem enc_dec {l : List Tp} (hk : ∀ t ∈ l, ∀ f ∈ t.fs, 0 ≤ f.kd ∧ f.kd ≤ 255) (h : (encodeF l).2 = 0) : decodeF (encodeF l).1 = (l, 0) := by
  obtain ⟨e1, e2⟩ := enc_reads hk h ⟨#[]⟩
  rw [show (encodeF l).1 ++ (⟨#[]⟩ : ByteArray) = (encodeF l).1 from ByteArray.append_empty] at e1 e2
  unfold decodeF
  simp only [e1, Int.toNat_natCast, e2, toList_none]
  rfl

/-- No table's bytes begin another one's. -/
theorem enc_apart {l m : List Tp} (hl : ∀ t ∈ l, ∀ f ∈ t.fs, 0 ≤ f.kd ∧ f.kd ≤ 255) (hm : ∀ t ∈ m, ∀ f ∈ t.fs, 0 ≤ f.kd ∧ f.kd ≤ 255) (h1 : (encodeF l).2 = 0) (h2 : (encodeF m).2 = 0) {z : ByteArray} (h : (encodeF m).1 = (encodeF l).1 ++ z) : l = m ∧ z = ⟨#[]⟩ := by
  obtain ⟨a1, a2⟩ := enc_reads hl h1 z
  obtain ⟨b1, b2⟩ := enc_reads hm h2 ⟨#[]⟩
  rw [show (encodeF m).1 ++ (⟨#[]⟩ : ByteArray) = (encodeF m).1 from ByteArray.append_empty, h] at b1 b2
  have hn : l.length = m.length := by have := a1.symm.trans b1; omega
  rw [← hn] at b2
  have := a2.symm.trans b2
  simp only [Prod.mk.injEq, DSt.mk.injEq] at this
  exact ⟨this.1, this.2.1⟩

theorem dNum_inv {x : DSt} (h : (dNum x).2.bad = false) : x.bad = false ∧ x.s = putS [(dNum x).1] ++ (dNum x).2.s := by
  by_cases hc : (x.bad || decide (1 > x.s.size)) = true
  · unfold dNum at h
    rw [if_pos hc] at h
    cases h
  · have hn := dNum_nonneg x
    rw [Bool.not_eq_true] at hc
    have hc0 := hc
    simp only [Bool.or_eq_false_iff, decide_eq_false_iff_not] at hc
    refine ⟨hc.1, ?_⟩
    have hs : 0 < x.s.size := by omega
    have e : dNum x = (bt x.s 0, ⟨x.s.extract 1 x.s.size, false⟩) := by unfold dNum; rw [if_neg (by rw [hc0]; simp)]
    rw [e] at hn ⊢
    simp only [] at hn ⊢
    rw [putS_one hn.1 (by omega)]
    have e2 : x.s = x.s.extract 0 1 ++ x.s.extract 1 x.s.size := by
      rw [ByteArray.extract_append_extract]
      rw [show min 0 1 = 0 by omega, show max 1 x.s.size = x.s.size by omega, ByteArray.extract_zero_size]
    have e3 : x.s.extract 0 1 = ⟨#[UInt8.ofNat (bt x.s 0).toNat]⟩ := by
      rw [ByteArray.extract_add_one (show 0 + 1 ≤ x.s.size by omega)]
      unfold bt
      rw [dif_pos (show (0 : Int).toNat < x.s.size from hs)]
      simp
      rfl
    rw [← e3]
    exact e2

theorem dTake_inv {n : Int} {x : DSt} (hn : 0 ≤ n) (h : (dTake n x).2.bad = false) : x.bad = false ∧ x.s = (dTake n x).1 ++ (dTake n x).2.s ∧ ((dTake n x).1.size : Int) = n := by
  by_cases hc : (x.bad || decide (n > x.s.size)) = true
  · unfold dTake at h
    rw [if_pos hc] at h
    cases h
  · have hc2 := hc
    simp only [Bool.or_eq_true, decide_eq_true_eq, not_or] at hc2
    have e : dTake n x = (x.s.extract 0 n.toNat, ⟨x.s.extract n.toNat x.s.size, false⟩) := by unfold dTake; rw [if_neg hc]
    rw [e]
    refine ⟨by cases hb : x.bad <;> simp_all, ?_, ?_⟩
    · rw [ByteArray.extract_append_extract, show min 0 n.toNat = 0 by omega, show max n.toNat x.s.size = x.s.size by omega, ByteArray.extract_zero_size]
    · rw [ByteArray.size_extract]
      omega

theorem dText_inv {x : DSt} (h : (dText x).2.bad = false) : x.bad = false ∧ x.s = putS [((dText x).1.size : Int)] ++ ((dText x).1 ++ (dText x).2.s) ∧ (dText x).1.size ≤ 255 := by
  have hn := dNum_nonneg x
  obtain ⟨h1, h2, h3⟩ := dTake_inv hn.1 (show (dTake (dNum x).1 (dNum x).2).2.bad = false from h)
  obtain ⟨h4, h5⟩ := dNum_inv h1
  have e : dText x = dTake (dNum x).1 (dNum x).2 := rfl
  rw [e]
  refine ⟨h4, ?_, by omega⟩
  rw [h3, ← h2]
  exact h5

theorem dField_inv {x : DSt} (h : (dField x).2.bad = false) : x.bad = false ∧ okFl (dField x).1 = true ∧ ∃ y, encFl (dField x).1 = some y ∧ x.s = y ++ (dField x).2.s := by
  obtain ⟨a, ha⟩ : ∃ a, dText x = a := ⟨_, rfl⟩
  obtain ⟨b, hb⟩ : ∃ b, dNum a.2 = b := ⟨_, rfl⟩
  obtain ⟨c, hc⟩ : ∃ c, dNum b.2 = c := ⟨_, rfl⟩
  obtain ⟨d, hd⟩ : ∃ d, dNum c.2 = d := ⟨_, rfl⟩
  obtain ⟨e, he⟩ : ∃ e, dNum d.2 = e := ⟨_, rfl⟩
  have hf : dField x = (⟨a.1, b.1, c.1, d.1, e.1⟩, e.2) := by unfold dField; simp only [ha, hb, hc, hd, he]
  rw [hf] at h ⊢
  simp only [] at h ⊢
  have be := dNum_nonneg d.2
  have bd := dNum_nonneg c.2
  have bc := dNum_nonneg b.2
  have bb := dNum_nonneg a.2
  obtain ⟨e1, e2⟩ := dNum_inv (x := d.2) (by rw [he]; exact h)
  obtain ⟨d1, d2⟩ := dNum_inv (x := c.2) (by rw [hd]; exact e1)
  obtain ⟨c1, c2⟩ := dNum_inv (x := b.2) (by rw [hc]; exact d1)
  obtain ⟨b1, b2⟩ := dNum_inv (x := a.2) (by rw [hb]; exact c1)
  obtain ⟨a1, a2, a3⟩ := dText_inv (x := x) (by rw [ha]; exact b1)
  rw [he] at e2 be
  rw [hd] at d2 bd
  rw [hc] at c2 bc
  rw [hb] at b2 bb
  rw [ha] at a2 a3
  refine ⟨a1, ?_, putS [(a.1.size : Int)] ++ a.1 ++ putS [b.1, c.1, d.1, e.1], ?_, ?_⟩
  · unfold okFl
    simp only []
    rw [decide_eq_true (show a.1.size ≤ 1000000000000000 by omega), decide_eq_true bb.1, decide_eq_true (show b.1 ≤ 255 by omega)]
    rfl
  · unfold encFl
    simp only []
    rw [if_pos]
    apply smallL_of
    intro n hn
    simp only [List.mem_cons, List.not_mem_nil, or_false] at hn
    rcases hn with rfl | rfl | rfl | rfl <;> omega
  · rw [putS_cons b.1, putS_cons c.1, putS_cons d.1]
    simp only [ByteArray.append_assoc]
    rw [← e2, ← d2, ← c2, ← b2]
    exact a2

theorem dFields_inv : ∀ (k : Nat) (x : DSt) (acc : List Fl), (dFields k x acc).2.bad = false → x.bad = false ∧ ∃ fs y, (dFields k x acc).1 = acc ++ fs ∧ fs.length = k ∧ (∀ f ∈ fs, okFl f = true) ∧ x.s = y ++ (dFields k x acc).2.s ∧ ∀ s, encFls fs s = some (s ++ y)
  | 0, x, acc, h => ⟨h, [], ⟨#[]⟩, by simp [dFields], rfl, (by simp), by rw [show (⟨#[]⟩ : ByteArray) ++ (dFields 0 x acc).2.s = (dFields 0 x acc).2.s from ByteArray.empty_append]; rfl, fun s => by rw [show s ++ (⟨#[]⟩ : ByteArray) = s from ByteArray.append_empty]; rfl⟩
  | k + 1, x, acc, h => by
    unfold dFields at h ⊢
    by_cases hb : x.bad = true
    · rw [if_pos hb] at h
      rw [h] at hb
      cases hb
    · rw [if_neg hb] at h ⊢
      obtain ⟨h1, fs, y, e1, e2, e3, e4, e5⟩ := dFields_inv k _ _ h
      obtain ⟨h2, h3, y2, h4, h5⟩ := dField_inv h1
      refine ⟨h2, (dField x).1 :: fs, y2 ++ y, by rw [e1]; simp, by simp [e2], ?_, ?_, fun s => ?_⟩
      · intro f hf
        rcases List.mem_cons.1 hf with rfl | hf
        · exact h3
        · exact e3 f hf
      · rw [ByteArray.append_assoc, ← e4]
        exact h5
      · unfold encFls
        rw [h4, Option.bind_some, e5, ByteArray.append_assoc]

theorem dType_inv {x : DSt} (h : (dType x).2.bad = false) : x.bad = false ∧ okTp (dType x).1 = true ∧ ∃ hd y, encHd (dType x).1 = some hd ∧ (∀ s, encFls (dType x).1.fs s = some (s ++ y)) ∧ x.s = hd ++ y ++ (dType x).2.s := by
  obtain ⟨a, ha⟩ : ∃ a, dText x = a := ⟨_, rfl⟩
  obtain ⟨b, hb⟩ : ∃ b, dNum a.2 = b := ⟨_, rfl⟩
  obtain ⟨c, hc⟩ : ∃ c, dNum b.2 = c := ⟨_, rfl⟩
  obtain ⟨d, hd⟩ : ∃ d, dFields c.1.toNat c.2 [] = d := ⟨_, rfl⟩
  have hf : dType x = (⟨a.1, b.1, d.1⟩, d.2) := by unfold dType; simp only [ha, hb, hc, hd]
  rw [hf] at h ⊢
  simp only [] at h ⊢
  have bc := dNum_nonneg b.2
  have bb := dNum_nonneg a.2
  obtain ⟨d1, fs, y, d2, d3, d4, d5, d6⟩ := dFields_inv c.1.toNat c.2 [] (by rw [hd]; exact h)
  obtain ⟨c1, c2⟩ := dNum_inv (x := b.2) (by rw [hc]; exact d1)
  obtain ⟨b1, b2⟩ := dNum_inv (x := a.2) (by rw [hb]; exact c1)
  obtain ⟨a1, a2, a3⟩ := dText_inv (x := x) (by rw [ha]; exact b1)
  rw [hd] at d2 d5
  rw [List.nil_append] at d2
  rw [hc] at c2 bc
  rw [hb] at b2 bb
  rw [ha] at a2 a3
  rw [d2]
  have hlen : (fs.length : Int) = c.1 := by omega
  refine ⟨a1, ?_, putS [(a.1.size : Int)] ++ a.1 ++ putS [b.1, (fs.length : Int)], y, ?_, d6, ?_⟩
  · unfold okTp
    simp only []
    rw [decide_eq_true (show a.1.size ≤ 1000000000000000 by omega), decide_eq_true (show fs.length ≤ 1000000000000000 by omega), List.all_eq_true.2 d4]
    rfl
  · unfold encHd
    simp only []
    rw [if_pos]
    apply smallL_of
    intro n hn
    simp only [List.mem_cons, List.not_mem_nil, or_false] at hn
    rcases hn with rfl | rfl | rfl <;> omega
  · rw [putS_cons b.1, hlen]
    simp only [ByteArray.append_assoc]
    rw [← d5, ← c2, ← b2]
    exact a2

theorem dTypes_inv : ∀ (k : Nat) (x : DSt) (acc : List Tp), (dTypes k x acc).2.bad = false → x.bad = false ∧ ∃ ts y, (dTypes k x acc).1 = acc ++ ts ∧ ts.length = k ∧ (∀ t ∈ ts, okTp t = true) ∧ x.s = y ++ (dTypes k x acc).2.s ∧ ∀ s, encTps ts s = some (s ++ y)
  | 0, x, acc, h => ⟨h, [], ⟨#[]⟩, by simp [dTypes], rfl, (by simp), by rw [show (⟨#[]⟩ : ByteArray) ++ (dTypes 0 x acc).2.s = (dTypes 0 x acc).2.s from ByteArray.empty_append]; rfl, fun s => by rw [show s ++ (⟨#[]⟩ : ByteArray) = s from ByteArray.append_empty]; rfl⟩
  | k + 1, x, acc, h => by
    unfold dTypes at h ⊢
    by_cases hb : x.bad = true
    · rw [if_pos hb] at h
      rw [h] at hb
      cases hb
    · rw [if_neg hb] at h ⊢
      obtain ⟨h1, ts, y, e1, e2, e3, e4, e5⟩ := dTypes_inv k _ _ h
      obtain ⟨h2, h3, hd, y2, h4, h5, h6⟩ := dType_inv h1
      refine ⟨h2, (dType x).1 :: ts, hd ++ y2 ++ y, by rw [e1]; simp, by simp [e2], ?_, ?_, fun s => ?_⟩
      · intro f hf
        rcases List.mem_cons.1 hf with rfl | hf
        · exact h3
        · exact e3 f hf
      · rw [ByteArray.append_assoc, ← e4]
        exact h6
      · unfold encTps
        rw [h4, Option.bind_some, h5, Option.bind_some, e5]
        simp only [ByteArray.append_assoc]

/-- Bytes that are read are written as they were. -/
theorem dec_enc {s : ByteArray} (h : (decodeF s).2 = 0) : encodeF (decodeF s).1 = (s, 0) ∧ okTps (decodeF s).1 = true ∧ (decodeF s).1.length ≤ 255 := by
  obtain ⟨n, hn⟩ : ∃ n, dNum ⟨s, false⟩ = n := ⟨_, rfl⟩
  obtain ⟨r, hr⟩ : ∃ r, dTypes n.1.toNat n.2 [] = r := ⟨_, rfl⟩
  have hd : decodeF s = if (r.2.bad || !(r.2.s.toList == [])) = true then ([], 8) else (r.1, 0) := by unfold decodeF; simp only [hn, hr]
  rw [hd] at h ⊢
  by_cases hc : (r.2.bad || !(r.2.s.toList == [])) = true
  · rw [if_pos hc] at h; simp at h
  · rw [if_neg hc]
    simp only [Bool.or_eq_true, Bool.not_eq_true', beq_eq_false_iff_ne, ne_eq, not_or, Bool.not_eq_true, Decidable.not_not] at hc
    obtain ⟨hb, he⟩ := hc
    have hz : r.2.s = ⟨#[]⟩ := by
      apply toList_same.1
      rw [he, toList_none]
    have bn := dNum_nonneg ⟨s, false⟩
    obtain ⟨d1, ts, y, d2, d3, d4, d5, d6⟩ := dTypes_inv n.1.toNat n.2 [] (by rw [hr]; exact hb)
    obtain ⟨c1, c2⟩ := dNum_inv (x := ⟨s, false⟩) (by rw [hn]; exact d1)
    rw [hn] at c2 bn
    rw [hr] at d2 d5
    rw [List.nil_append] at d2
    rw [hz, show y ++ (⟨#[]⟩ : ByteArray) = y from ByteArray.append_empty] at d5
    rw [d5] at c2
    simp only [] at c2 ⊢
    rw [d2]
    have hlen : (ts.length : Int) = n.1 := by omega
    refine ⟨?_, ?_, by omega⟩
    · unfold encodeF
      rw [hlen, if_pos (smallL_of (fun m hm => by simp only [List.mem_cons, List.not_mem_nil, or_false] at hm; subst hm; omega)), d6, ← c2]
    · unfold okTps
      rw [decide_eq_true (show ts.length ≤ 1000000000000000 by omega), List.all_eq_true.2 d4]
      rfl
theorem dec_two (s : ByteArray) : (decodeF s).2 = 0 ∨ decodeF s = ([], 8) := by
  unfold decodeF
  simp only []
  split
  · exact .inr rfl
  · exact .inl rfl
theorem enc_two (l : List Tp) : (encodeF l).2 = 0 ∨ encodeF l = (⟨#[]⟩, 2) := by
  unfold encodeF
  split
  · split
    · exact .inl rfl
    · exact .inr rfl
  · exact .inr rfl

theorem flSame_eq {f g : Fl} : flSame f g = true ↔ f = g := by
  obtain ⟨a, b, c, d, e⟩ := f
  obtain ⟨a2, b2, c2, d2, e2⟩ := g
  unfold flSame
  simp only [Bool.and_eq_true, beq_iff_eq, Fl.mk.injEq, toList_same]
theorem all_zip_eq {α : Type} {p : α → α → Bool} (hp : ∀ x y, p x y = true ↔ x = y) : ∀ (l m : List α), (decide (l.length = m.length) && (l.zip m).all fun q => p q.1 q.2) = true ↔ l = m
  | [], [] => by simp
  | [], _ :: _ => by simp
  | _ :: _, [] => by simp
  | x :: l, y :: m => by
    have ih := all_zip_eq hp l m
    simp only [Bool.and_eq_true, decide_eq_true_eq] at ih
    simp only [List.length_cons, List.zip_cons_cons, List.all_cons, Bool.and_eq_true, decide_eq_true_eq, hp, List.cons.injEq, ← ih]
    constructor
    · rintro ⟨h1, h2, h3⟩; exact ⟨h2, by omega, h3⟩
    · rintro ⟨h1, h2, h3⟩; exact ⟨by omega, h1, h3⟩
theorem tpSame_eq {x y : Tp} : tpSame x y = true ↔ x = y := by
  obtain ⟨a, b, c⟩ := x
  obtain ⟨a2, b2, c2⟩ := y
  unfold tpSame flsSame
  rw [Bool.and_eq_true, Bool.and_eq_true, all_zip_eq (fun x y => flSame_eq)]
  simp only [beq_iff_eq, Tp.mk.injEq, toList_same]
theorem tysSame_eq {l m : List Tp} : tysSame l m = true ↔ l = m := all_zip_eq (fun x y => tpSame_eq) l m
end Go.Proofs.Ytkflofjcjolehaa
