/- Types: lemmas on what the functions that the laws reach answer. No conditions of their own beyond those that each theorem states. -/
import Derived.Test.YtkflofjcjolehaaBig12
import Derived.Laws.EntriesVeiled
import Derived.Test.YtkflofjcjolehaaBig5
import Derived.Test.YtkflofjcjolehaaBig11
/-! Types: Decode. -/
namespace Go.Proofs.Ytkflofjcjolehaa
open Go.RowKit Go.Proofs.YtkflofjcjolehaaW.PrintWords
set_option maxHeartbeats 4000000
set_option maxRecDepth 100000
set_option linter.unusedSimpArgs false
set_option linter.unusedVariables false

/-- Rows of one's own stay, where only Decode's own variables turn. -/
theorem R_sb {α : Type} {d : Kd α} {e : Nat} {w w' : World} {base b : Nat} {ok : Nat → Prop} {v : Value} {xs : List α} {x : DSt} (h : d.R e w base ok v xs) (hx : DHas w b x) (h9 : ∀ q, q ∈ e :: d.E → q ≠ 9) (h4 : ∀ q, q ∈ e :: d.E → q ≠ 4) (ht : Turned (SB b) w w') : d.R e w' base ok v xs :=
  Kd.R_mono (Kd.R_step (Kd.R_types (Kd.R_types h hx.s h9) hx.bad h4) (fun k hk hlt => ht.block k hlt (by
    intro hs
    rcases hs with rfl | rfl
    · exact hk.1.2 rfl
    · exact hk.2 rfl))) (fun _ hk => hk.1.1)

/-- Decode's variables in their blocks. -/
structure DV (b b1 b2 b3 : Nat) (w : World) (x : DSt) : Prop where
  e1 : b + 1 = b1
  e2 : b + 2 = b2
  e3 : b + 3 = b3
  h : DHas4 w b x

section
variable {b b1 b2 b3 : Nat} {w w' : World} {x y : DSt}
theorem DV.bad (h : DV b b1 b2 b3 w x) : w.cell? ⟨b1, 0, none⟩ = some (.bool x.bad) := by rw [← h.e1]; exact h.h.st.bad.cell 0
theorem DV.str (h : DV b b1 b2 b3 w x) : w.cell? ⟨b, 0, none⟩ = some (.string x.s) := h.h.st.s.cell 0
theorem DV.fnum (h : DV b b1 b2 b3 w x) : w.cell? ⟨b3, 0, none⟩ = some (.func (.func 33) #[] #[.pointer (some ⟨b2, 0, none⟩)]) := by rw [← h.e3, ← h.e2]; exact h.h.num.cell 0
theorem DV.turned (h : DV b b1 b2 b3 w x) (hx : DHas4 w' b y) : DV b b1 b2 b3 w' y := ⟨h.e1, h.e2, h.e3, hx⟩
theorem DV.alloc (h : DV b b1 b2 b3 w x) (o : Obj) : DV b b1 b2 b3 (w.alloc o) x := ⟨h.e1, h.e2, h.e3, ⟨⟨h.h.st.s.alloc o, h.h.st.bad.alloc o⟩, h.h.take.alloc o, h.h.num.alloc o⟩⟩
theorem DV.lt (h : DV b b1 b2 b3 w x) : b + 3 < w.heap.size := h.h.num.lt
theorem DV.far (h : DV b b1 b2 b3 w x) {g : Nat} (hg : b + 3 < g) (i : Nat) (v : Value) : DV b b1 b2 b3 (w.setCell ⟨g, i, none⟩ v) x :=
  ⟨h.e1, h.e2, h.e3, ⟨⟨h.h.st.s.far (by simp; omega) v, h.h.st.bad.far (by simp; omega) v⟩, h.h.take.far (by simp; omega) v, h.h.num.far (by simp; omega) v⟩⟩
theorem DV.other (h : DV b b1 b2 b3 w x) {S : Nat → Prop} (ht : Turned S w w') (hS : ∀ k, k ≤ b + 3 → b ≤ k → ¬ S k) : DV b b1 b2 b3 w' x :=
  ⟨h.e1, h.e2, h.e3, ⟨⟨h.h.st.s.turned ht (hS _ (by omega) (by omega)), h.h.st.bad.turned ht (hS _ (by omega) (by omega))⟩, h.h.take.turned ht (hS _ (by omega) (by omega)), h.h.num.turned ht (hS _ (by omega) (by omega))⟩⟩
theorem DV.row {α : Type} {d : Kd α} {e base : Nat} {ok : Nat → Prop} {v : Value} {xs : List α} (h : DV b b1 b2 b3 w x) (hr : d.R e w base ok v xs) (ht : Turned (SB b) w w') (h9 : ∀ q, q ∈ e :: d.E → q ≠ 9) (h4 : ∀ q, q ∈ e :: d.E → q ≠ 4) : d.R e w' base ok v xs :=
  R_sb hr h.h.st h9 h4 ht
theorem num_v (h : DV b b1 b2 b3 w x) : Calls Try.prog 33 #[.pointer (some ⟨b2, 0, none⟩)] w fun e w' => e = .returned (.int .i64 (dNum x).1) ∧ DV b b1 b2 b3 w' (dNum x).2 ∧ Turned (SB b) w w' := by
  rw [← h.e2]
  refine (num_1 w b x h.h).mono ?_
  rintro e w' ⟨he, hd, ht⟩
  exact ⟨he, by rw [h.e2]; exact h.turned hd, ht⟩
theorem text_v (h : DV b b1 b2 b3 w x) : Calls Try.prog 35 #[.pointer (some ⟨b2, 0, none⟩), .pointer (some ⟨b3, 0, none⟩)] w fun e w' => e = .returned (.string (dText x).1) ∧ DV b b1 b2 b3 w' (dText x).2 ∧ Turned (SB b) w w' := by
  rw [← h.e2, ← h.e3]
  refine (text_1 w b x h.h).mono ?_
  rintro e w' ⟨he, hd, ht⟩
  exact ⟨he, by rw [h.e2, h.e3]; exact h.turned hd, ht⟩
end

theorem below_trans' {B : Nat} {w w1 w2 : World} (h1 : Below B w w1) (h2 : Below w1.heap.size w1 w2) (hb : B ≤ w1.heap.size) : Below B w w2 := h1.trans (h2.mono hb)
theorem below_sb {b : Nat} {w w1 w2 : World} (h1 : Below b w w1) (h2 : Turned (SB b) w1 w2) (hb : b ≤ w1.heap.size) : Below b w w2 := h1.trans (h2.below hb (fun k hk => by unfold SB at hk; omega))

theorem infoT : (Try.prog.info? 44).map (fun i => (i.zero, i.size, i.bytes)) = some (some (.agg #[(.string ⟨#[]⟩), (.int .i64 0), (.slice none 0 0)]), kT.sz, 48) := by kernel_rfl
theorem infoF : (Try.prog.info? 46).map (fun i => (i.zero, i.size, i.bytes)) = some (some (.agg #[(.string ⟨#[]⟩), (.int .u8 0), (.int .i64 0), (.int .i64 0), (.int .i64 0)]), kF.sz, 48) := by kernel_rfl
/-- A type that is being read, in block g; those ahead of it are in l. -/
structure TS (b b1 b2 b3 g : Nat) (w0 w : World) (y : DSt) (cs : Array Value) (l : Value) (acc : List Tp) : Prop where
  v : DV b b1 b2 b3 w y
  gb : b + 3 < g
  h : Has w g 44 cs
  r : kT.R 44 w b (fun q => q < g) l acc
  bw : Below b w0 w
/-- A field of it, in block h; those ahead of it are in v. -/
structure FS (b b1 b2 b3 g h : Nat) (w0 w : World) (y : DSt) (cs fcs : Array Value) (l : Value) (acc : List Tp) (v : Value) (ac2 : List Fl) : Prop where
  t : TS b b1 b2 b3 g w0 w y cs l acc
  gh : g < h
  f : Has w h 46 fcs
  r : kF.R 46 w b (fun q => g < q ∧ q < h) v ac2

section
variable {b b1 b2 b3 g h : Nat} {w0 w w' : World} {y y' : DSt} {cs fcs : Array Value} {l v : Value} {acc : List Tp} {ac2 : List Fl}
theorem TS.set (t : TS b b1 b2 b3 g w0 w y cs l acc) (i : Nat) (u : Value) : TS b b1 b2 b3 g w0 (w.setCell ⟨g, i, none⟩ u) y (cs.setIfInBounds i u) l acc :=
  ⟨t.v.far t.gb i u, t.gb, t.h.set i u, Kd.R_far (p := ⟨g, i, none⟩) t.r (fun k hk => Nat.ne_of_lt hk) u, t.bw.setCell (by have := t.gb; simp; omega) u⟩
theorem TS.turn (t : TS b b1 b2 b3 g w0 w y cs l acc) (hv : DV b b1 b2 b3 w' y') (ht : Turned (SB b) w w') : TS b b1 b2 b3 g w0 w' y' cs l acc :=
  ⟨hv, t.gb, t.h.turned ht (by have := t.gb; unfold SB; omega), t.v.row t.r ht (by decide) (by decide), below_sb t.bw ht (by have := t.v.lt; omega)⟩
theorem TS.alloc (t : TS b b1 b2 b3 g w0 w y cs l acc) (o : Obj) : TS b b1 b2 b3 g w0 (w.alloc o) y cs l acc :=
  ⟨t.v.alloc o, t.gb, t.h.alloc o, Kd.R_below t.r (below_box w o), below_trans' t.bw (below_box w o) (by have := t.v.lt; omega)⟩
theorem TS.grown (t : TS b b1 b2 b3 g w0 w y cs l acc) {row : Option Nat} (hg : w.grownBy w' row) (hr : ∀ q, row = some q → g < q) : TS b b1 b2 b3 g w0 w' y cs l acc := by
  have ht : Turned (fun k => g < k) w w' := Turned.grown hg hr
  refine ⟨t.v.other ht (fun k h1 h2 => by have := t.gb; omega), t.gb, t.h.turned ht (by omega), Kd.R_grown t.r hg (fun k hk e => by have := hr k e.symm; omega), t.bw.trans (ht.below (by have := t.v.lt; omega) (fun k hk => by have := t.gb; omega))⟩
theorem FS.set (t : FS b b1 b2 b3 g h w0 w y cs fcs l acc v ac2) (i : Nat) (u : Value) : FS b b1 b2 b3 g h w0 (w.setCell ⟨h, i, none⟩ u) y cs (fcs.setIfInBounds i u) l acc v ac2 :=
  ⟨⟨t.t.v.far (by have := t.t.gb; have := t.gh; omega) i u, t.t.gb, t.t.h.far (by have := t.gh; simp; omega) u, Kd.R_far (p := ⟨h, i, none⟩) t.t.r (fun k hk => by have := t.gh; have hk' : k < g := hk; simp; omega) u, t.t.bw.setCell (by have := t.t.gb; have := t.gh; simp; omega) u⟩,
    t.gh, t.f.set i u, Kd.R_far (p := ⟨h, i, none⟩) t.r (fun k hk => Nat.ne_of_lt hk.2) u⟩
theorem FS.turn (t : FS b b1 b2 b3 g h w0 w y cs fcs l acc v ac2) (hv : DV b b1 b2 b3 w' y') (ht : Turned (SB b) w w') : FS b b1 b2 b3 g h w0 w' y' cs fcs l acc v ac2 :=
  ⟨t.t.turn hv ht, t.gh, t.f.turned ht (by have := t.t.gb; have := t.gh; unfold SB; omega), t.t.v.row t.r ht (by decide) (by decide)⟩
theorem FS.new (t : TS b b1 b2 b3 g w0 w y cs l acc) (r : kF.R 46 w b (fun q => g < q) v ac2) (fcs : Array Value) : FS b b1 b2 b3 g w.heap.size w0 (w.alloc (.cells fcs 46)) y cs fcs l acc v ac2 :=
  ⟨t.alloc _, t.h.lt, Has.new _ _ _, Kd.R_below (Kd.R_mono (Kd.R_bound r) (fun q hq => ⟨hq.1, hq.2.2.1⟩)) (below_box _ _)⟩
end

theorem ty_decode (w : World) (s : ByteArray) :
    Calls Try.prog 14 #[.string s] w fun e w' => ∃ v : Value, e = .returned (.tuple #[v, .int .i64 (decodeF s).2]) ∧ Kd.R kT 44 w' w.heap.size (fun _ => True) v (decodeF s).1 ∧ Below w.heap.size w w' := by
  go_enter Try.func14, Try.ntmps14
  go_wp2_with fail
  obtain ⟨W, hW⟩ : ∃ W, W = (((w.alloc (Obj.cells #[Value.string s] 9)).alloc (Obj.cells #[Value.bool false] 4)).alloc (Obj.cells #[Value.func (.func 32) #[] #[.pointer (some ⟨w.heap.size + 1, 0, none⟩), .pointer (some ⟨w.heap.size, 0, none⟩)]] 61)).alloc (Obj.cells #[Value.func (.func 33) #[] #[.pointer (some ⟨w.heap.size + 1 + 1, 0, none⟩)]] 65) := ⟨_, rfl⟩
  rw [← hW]
  have HB0 : Below w.heap.size w W := by rw [hW]; exact bel_trans (bel_trans (bel_trans (below_box _ _) (below_box _ _)) (below_box _ _)) (below_box _ _)
  obtain ⟨b, hb⟩ : ∃ b, w.heap.size = b := ⟨_, rfl⟩
  have HD0 : DV b (w.heap.size + 1) (w.heap.size + 1 + 1) (w.heap.size + 1 + 1 + 1) W ⟨s, false⟩ := by
    subst hb
    refine ⟨rfl, rfl, rfl, ⟨⟨?_, ?_⟩, ?_, ?_⟩⟩
    · rw [hW]; exact (((Has.new _ _ _).alloc _).alloc _).alloc _
    · rw [hW]; have := (((Has.new (w.alloc (Obj.cells #[Value.string s] 9)) 4 #[Value.bool false]).alloc (Obj.cells #[Value.func (.func 32) #[] #[.pointer (some ⟨w.heap.size + 1, 0, none⟩), .pointer (some ⟨w.heap.size, 0, none⟩)]] 61)).alloc (Obj.cells #[Value.func (.func 33) #[] #[.pointer (some ⟨w.heap.size + 1 + 1, 0, none⟩)]] 65)); rw [World.size_alloc] at this; exact this
    · rw [hW]; have := ((Has.new ((w.alloc (Obj.cells #[Value.string s] 9)).alloc (Obj.cells #[Value.bool false] 4)) 61 #[Value.func (.func 32) #[] #[.pointer (some ⟨w.heap.size + 1, 0, none⟩), .pointer (some ⟨w.heap.size, 0, none⟩)]]).alloc (Obj.cells #[Value.func (.func 33) #[] #[.pointer (some ⟨w.heap.size + 1 + 1, 0, none⟩)]] 65)); rw [World.size_alloc, World.size_alloc] at this; exact this
    · rw [hW]; have := ((Has.new (((w.alloc (Obj.cells #[Value.string s] 9)).alloc (Obj.cells #[Value.bool false] 4)).alloc (Obj.cells #[Value.func (.func 32) #[] #[.pointer (some ⟨w.heap.size + 1, 0, none⟩), .pointer (some ⟨w.heap.size, 0, none⟩)]] 61)) 65 #[Value.func (.func 33) #[] #[.pointer (some ⟨w.heap.size + 1 + 1, 0, none⟩)]])); rw [World.size_alloc, World.size_alloc, World.size_alloc] at this; exact this
  obtain ⟨b3, hb3⟩ : ∃ b3, w.heap.size + 1 + 1 + 1 = b3 := ⟨_, rfl⟩
  obtain ⟨b2, hb2⟩ : ∃ b2, w.heap.size + 1 + 1 = b2 := ⟨_, rfl⟩
  obtain ⟨b1, hb1⟩ : ∃ b1, w.heap.size + 1 = b1 := ⟨_, rfl⟩
  rw [hb3, hb2, hb1] at HD0
  rw [hb] at HB0
  rw [hb3, hb2, hb1, hb]
  clear hW hb3 hb2 hb1
  have HB := hide hb
  clear hb
  refine (num_v HD0).mono ?_
  rintro e w1 ⟨rfl, HD1, T1⟩
  have HB1 : Below b w w1 := HB0.trans (T1.below (by have := HB.out; have := HB0.size; omega) (fun k hk => by unfold SB at hk; omega))
  clear HD0 HB0 T1
  obtain ⟨R, hR⟩ : ∃ R, dTypes (dNum ⟨s, false⟩).1.toNat (dNum ⟨s, false⟩).2 [] = R := ⟨_, rfl⟩
  obtain ⟨n, hn⟩ : ∃ n : Nat, (dNum ⟨s, false⟩).1 = n := ⟨(dNum ⟨s, false⟩).1.toNat, by have := (dNum_nonneg ⟨s, false⟩).1; omega⟩
  have hn2 : n ≤ 255 := by have := (dNum_nonneg ⟨s, false⟩).2; omega
  have hdec : Hid (decodeF s = if (R.2.bad || !(R.2.s.toList == [])) = true then ([], 8) else (R.1, 0)) := hide (by unfold decodeF; simp only []; rw [hR])
  rw [hn, Int.toNat_natCast] at hR
  rw [hn]
  obtain ⟨x1, hx1⟩ : ∃ x, (dNum ⟨s, false⟩).2 = x := ⟨_, rfl⟩
  rw [hx1] at hR HD1
  clear hx1 hn
  have HR := hide hR
  clear hR
  have HDD := hide HD1
  have HBB := hide HB1
  clear HD1 HB1
  go_wp2_with fail
  go_loopw [2, 8] (fun l n wr => ∃ (k : Nat) (x : DSt) (acc : List Tp), n = .int .i64 k ∧ dTypes k x acc = R ∧ DV b b1 b2 b3 wr x ∧ kT.R 44 wr b (fun _ => True) l acc ∧ acc.length + k ≤ 255 ∧ Below b w wr) (fun _ n _ => (intOf n).toNat)
  case atStart => exact ⟨n, x1, [], rfl, HR.out, HDD.out, Kd.R_nil _ _ _ _ _, by simpa using hn2, HBB.out⟩
  case round =>
    clear HR HDD HBB hn2
    obtain ⟨k, x, acc, rfl, hdt, hV, hRl, hlen, hBw⟩ := hrel
    have hc1 := hV.bad
    have hcs := hV.str
    have hc3 := hV.fnum
    obtain ⟨xs, bad⟩ := x
    simp only [] at hc1 hcs
    have HV := hide hV
    have HL := hide hRl
    have HW := hide hBw
    have hln := hlen
    clear hV hRl hBw hlen
    by_cases hk : k = 0
    · subst hk
      have hRR : Hid (R = (acc, ⟨xs, bad⟩)) := hide hdt.symm
      clear hdt
      have hd2 : decide ((0 : Int) < ((0 : Nat) : Int)) = false := by simp
      cases bad with
      | true =>
        go_wp2_with fail
        go_ret2
        have e := hdec.out
        rw [hRR.out] at e
        rw [e]
        exact ⟨_, rfl, Kd.R_nil _ _ _ _ _, by rw [HB.out]; exact HW.out⟩
      | false =>
        cases hs : (xs.toList == []) with
        | true =>
          go_wp2_with fail
          go_ret2
          have e := hdec.out
          rw [hRR.out] at e
          simp only [hs, Bool.not_true, Bool.or_false] at e
          rw [if_neg (by simp)] at e
          rw [e]
          exact ⟨_, rfl, by rw [HB.out]; exact HL.out, by rw [HB.out]; exact HW.out⟩
        | false =>
          go_wp2_with fail
          go_ret2
          have e := hdec.out
          rw [hRR.out] at e
          simp only [hs, Bool.not_false, Bool.or_true, if_true] at e
          rw [e]
          exact ⟨_, rfl, Kd.R_nil _ _ _ _ _, by rw [HB.out]; exact HW.out⟩
    · cases bad with
      | true =>
        have hRR : Hid (R = (acc, ⟨xs, true⟩)) := by
          obtain ⟨k, rfl⟩ : ∃ m, k = m + 1 := ⟨k - 1, by omega⟩
          unfold dTypes at hdt
          rw [if_pos rfl] at hdt
          exact hide hdt.symm
        have hd2 : decide ((0 : Int) < (k : Int)) = true := decide_eq_true (by omega)
        clear hdt
        go_wp2_with fail
        go_ret2
        have e := hdec.out
        rw [hRR.out] at e
        rw [e]
        exact ⟨_, rfl, Kd.R_nil _ _ _ _ _, by rw [HB.out]; exact HW.out⟩
      | false =>
        have hdt2 : Hid (dTypes (k - 1) (dType ⟨xs, false⟩).2 (acc ++ [(dType ⟨xs, false⟩).1]) = R) := by
          obtain ⟨k, rfl⟩ : ∃ m, k = m + 1 := ⟨k - 1, by omega⟩
          unfold dTypes at hdt
          rw [if_neg (by simp)] at hdt
          exact hide hdt
        have hd2 : decide ((0 : Int) < (k : Int)) = true := decide_eq_true (by omega)
        clear hdt
        obtain ⟨g, hg⟩ : ∃ g, wr.heap.size = g := ⟨_, rfl⟩
        have hgb : b + 3 < g := by rw [← hg]; exact HV.out.lt
        have hgS : Hid (¬ SB b g) := hide (by unfold SB; omega)
        have q3 : b3 ≠ g := by have := HV.out.e3; omega
        have q1 : b1 ≠ g := by have := HV.out.e1; omega
        have q0 : b ≠ g := by omega
        have HGB := hide hgb
        clear hgb
        have S0 : TS b b1 b2 b3 g w (wr.alloc (Obj.cells #[Value.string ⟨#[]⟩, .int .i64 0, .slice none 0 0] 44)) ⟨xs, false⟩ #[Value.string ⟨#[]⟩, .int .i64 0, .slice none 0 0] u2 acc := by
          refine ⟨HV.out.alloc _, HGB.out, by rw [← hg]; exact Has.new _ _ _, Kd.R_below (Kd.R_mono (Kd.R_bound HL.out) (fun q hq => by rw [← hg]; exact hq.2.2.1)) (below_box _ _), below_trans' HW.out (below_box _ _) (by rw [hg]; have := HGB.out; omega)⟩
        have HS0 := hide S0
        have HT := hide (text_v S0.v)
        obtain ⟨a, ha⟩ : ∃ a, dText ⟨xs, false⟩ = a := ⟨_, rfl⟩
        rw [ha] at HT
        have HA := hide ha
        have HG := hide hg
        clear ha S0 hg
        go_wp2_with fail
        rw [HG.out]
        refine HT.out.mono ?_
        rintro e w2 ⟨rfl, V2, T2⟩
        have S2 := HS0.out.turn V2 T2
        have HS2 := hide S2
        have HV3 := hide (num_v (S2.set 0 (.string a.1)).v)
        obtain ⟨p, hp⟩ : ∃ p, dNum a.2 = p := ⟨_, rfl⟩
        rw [hp] at HV3
        have HP := hide hp
        have g0 := S2.h.cell 0
        have g1 := S2.h.cell 1
        have g2 := S2.h.cell 2
        have gf0 := S2.h.free 0
        have gf1 := S2.h.free 1
        simp at g0 g1 g2
        have d3 := V2.fnum
        clear hp S2 V2 T2 HT HS0
        go_wp2_with fail
        refine HV3.out.mono ?_
        rintro e w3 ⟨rfl, V3, T3⟩
        have S3 := (HS2.out.set 0 (.string a.1)).turn V3 T3
        have HS3 := hide S3
        have HV4 := hide (num_v (S3.set 1 (.int .i64 p.1)).v)
        obtain ⟨q, hq⟩ : ∃ q, dNum p.2 = q := ⟨_, rfl⟩
        rw [hq] at HV4
        have HQ := hide hq
        clear g0 g1 g2 gf0 gf1 d3
        have g0 := S3.h.cell 0
        have g1 := S3.h.cell 1
        have g2 := S3.h.cell 2
        have gf1 := S3.h.free 1
        simp at g0 g1 g2
        have d3 := V3.fnum
        clear hq S3 V3 T3 HV3 HS2
        go_wp2_with fail
        refine HV4.out.mono ?_
        rintro e w4 ⟨rfl, V4, T4⟩
        have S4 := hide ((HS3.out.set 1 (.int .i64 p.1)).turn V4 T4)
        clear V4 T4 HV4 HS3 g0 g1 g2 gf1 d3
        obtain ⟨m, hm⟩ : ∃ m : Nat, q.1 = m := ⟨q.1.toNat, by rw [← HQ.out]; have := (dNum_nonneg p.2).1; omega⟩
        have hm2 : m ≤ 255 := by have := (dNum_nonneg p.2).2; rw [HQ.out] at this; omega
        obtain ⟨R2, hR2⟩ : ∃ R, dFields m q.2 [] = R := ⟨_, rfl⟩
        have hty : Hid (dType ⟨xs, false⟩ = (⟨a.1, p.1, R2.1⟩, R2.2)) := by
          unfold dType
          simp only []
          rw [HA.out, HP.out, HQ.out, hm, Int.toNat_natCast, hR2]
          exact rfl
        rw [hm]
        have HR2 := hide hR2
        have HDT := hdt2
        clear hm hR2 hdt2 HA HP HQ
        obtain ⟨nm, hnm⟩ : ∃ nm, a.1 = nm := ⟨_, rfl⟩
        obtain ⟨sz, hsz⟩ : ∃ sz, p.1 = sz := ⟨_, rfl⟩
        rw [hnm, hsz] at S4 hty
        rw [hnm, hsz]
        clear hnm hsz
        have S4' : Hid (TS b b1 b2 b3 g w w4 q.2 #[.string nm, .int .i64 sz, .slice none 0 0] u2 acc) := S4
        clear S4
        clear hc1 hcs hc3 HW HL HV HGB hgS
        go_wp2_with fail
        go_loopw [10] (fun n wi => ∃ (j : Nat) (y : DSt) (ac2 : List Fl) (v : Value), n = .int .i64 j ∧ dFields j y ac2 = R2 ∧ TS b b1 b2 b3 g w wi y #[.string nm, .int .i64 sz, v] u2 acc ∧ kF.R 46 wi b (fun q => g < q) v ac2 ∧ ac2.length + j ≤ 255) (fun n _ => (intOf n).toNat)
        case atStart => exact ⟨m, q.2, [], .slice none 0 0, rfl, HR2.out, S4'.out, Kd.R_nil _ _ _ _ _, by simpa using hm2⟩
        case round =>
          clear HR2 S4' hm2
          obtain ⟨j, y, ac2, v, rfl, hdf, hS, hv, hl2⟩ := hrel
          obtain ⟨ys, bad⟩ := y
          have hc1 := hS.v.bad
          have hc3 := hS.v.fnum
          simp only [] at hc1
          have HS := hide hS
          have HRV := hide hv
          clear hS hv
          by_cases hj : j = 0 ∨ bad = true
          · have hRR : Hid (R2 = (ac2, ⟨ys, bad⟩)) := by
              rcases hj with rfl | rfl
              · exact hide hdf.symm
              · cases j with
                | zero => exact hide hdf.symm
                | succ j => unfold dFields at hdf; rw [if_pos rfl] at hdf; exact hide hdf.symm
            clear hdf
            have g0 := HS.out.h.cell 0
            have g1 := HS.out.h.cell 1
            have g2 := HS.out.h.cell 2
            simp at g0 g1 g2
            have hdd : j = 0 ∨ (0 < j ∧ bad = true) := by
              by_cases h0 : j = 0
              · exact .inl h0
              · exact .inr ⟨by omega, by rcases hj with h | h; exact absurd h h0; exact h⟩
            clear hj
            have haP : Hid (kT.M wr b (fun q => g < q) ⟨nm, sz, ac2⟩ [.string nm, .int .i64 sz, v]) := hide ⟨_, _, rfl, rfl, _, _, rfl, rfl, v, rfl, HRV.out⟩
            have haK : Hid (∀ q, g < q → True ∧ some q ≠ u2.ownBlock) := hide (fun q hq => ⟨trivial, fun e => by have h2 : q < g := HS.out.r.1 q e.symm; omega⟩)
            have haF : Hid (∀ q, wr.heap.size ≤ q → True) := hide (fun _ _ => trivial)
            have haO : Hid (kT.R 44 wr b (fun _ => True) u2 acc) := hide (Kd.R_mono HS.out.r (fun _ _ => trivial))
            have haB : Hid (Below b w wr) := hide HS.out.bw
            have haS : Hid (b ≤ wr.heap.size) := hide (by have := HS.out.v.lt; omega)
            have haL : Hid ((acc.length + 1) * 48 ≤ 140737488355328) := hide (by omega)
            rcases hdd with rfl | ⟨hdd, rfl⟩
            · have hdd : decide ((0 : Int) < ((0 : Nat) : Int)) = false := by simp
              go_wp2_with (at_builtin; refine Kd.R_append kT (w0 := w) b rfl (.tmp 63) (.tmp 65) 22 44 (.agg #[.string ⟨#[]⟩, .int .i64 0, .slice none 0 0]) 48 rfl Try.underlying22 infoT rfl (by decide) (by omega) u2 acc ⟨nm, sz, ac2⟩ [.string nm, .int .i64 sz, v] (fun _ => True) (fun q => g < q) rfl rfl haP.out haK.out haF.out haO.out haB.out haS.out haL.out ?_; intro v1 w1 hR1 hB1 hg1 hat1; have hHR1 := hide hR1; have hHB1 := hide hB1; have hHg1 := hide hg1; clear hR1 hB1 hg1 hat1)
              go_roundw
              case rel =>
                have hne : ∀ k, k ≤ b + 3 → b ≤ k → ¬ (some k = u2.ownBlock) := by
                  have hV := HS.out.v
                  intro k h1 h2 e
                  have hk : k = b ∨ k = b + 1 ∨ k = b + 2 ∨ k = b + 3 := by omega
                  rcases hk with rfl | rfl | rfl | rfl
                  · exact Kd.R_ne haO.out hV.h.st.s (by decide) e
                  · exact Kd.R_ne haO.out hV.h.st.bad (by decide) e
                  · exact Kd.R_ne haO.out hV.h.take (by decide) e
                  · exact Kd.R_ne haO.out hV.h.num (by decide) e
                refine ⟨k - 1, ⟨ys, bad⟩, acc ++ [⟨nm, sz, ac2⟩], ?_, ?_, HS.out.v.other (Turned.grown (S := fun k => some k = u2.ownBlock) hHg1.out (fun k e => e.symm)) hne, hHR1.out, by rw [List.length_append, List.length_singleton]; omega, hHB1.out⟩
                · rw [show ((k - 1 : Nat) : Int) = (k : Int) - 1 by omega]
                · have e1 := HDT.out
                  rw [hty.out, hRR.out] at e1
                  exact e1
              case measure => simp [intOf]; omega
            · go_wp2_with (at_builtin; refine Kd.R_append kT (w0 := w) b rfl (.tmp 63) (.tmp 65) 22 44 (.agg #[.string ⟨#[]⟩, .int .i64 0, .slice none 0 0]) 48 rfl Try.underlying22 infoT rfl (by decide) (by omega) u2 acc ⟨nm, sz, ac2⟩ [.string nm, .int .i64 sz, v] (fun _ => True) (fun q => g < q) rfl rfl haP.out haK.out haF.out haO.out haB.out haS.out haL.out ?_; intro v1 w1 hR1 hB1 hg1 hat1; have hHR1 := hide hR1; have hHB1 := hide hB1; have hHg1 := hide hg1; clear hR1 hB1 hg1 hat1)
              go_roundw
              case rel =>
                have hne : ∀ k, k ≤ b + 3 → b ≤ k → ¬ (some k = u2.ownBlock) := by
                  have hV := HS.out.v
                  intro k h1 h2 e
                  have hk : k = b ∨ k = b + 1 ∨ k = b + 2 ∨ k = b + 3 := by omega
                  rcases hk with rfl | rfl | rfl | rfl
                  · exact Kd.R_ne haO.out hV.h.st.s (by decide) e
                  · exact Kd.R_ne haO.out hV.h.st.bad (by decide) e
                  · exact Kd.R_ne haO.out hV.h.take (by decide) e
                  · exact Kd.R_ne haO.out hV.h.num (by decide) e
                refine ⟨k - 1, ⟨ys, true⟩, acc ++ [⟨nm, sz, ac2⟩], ?_, ?_, HS.out.v.other (Turned.grown (S := fun k => some k = u2.ownBlock) hHg1.out (fun k e => e.symm)) hne, hHR1.out, by rw [List.length_append, List.length_singleton]; omega, hHB1.out⟩
                · rw [show ((k - 1 : Nat) : Int) = (k : Int) - 1 by omega]
                · have e1 := HDT.out
                  rw [hty.out, hRR.out] at e1
                  exact e1
              case measure => simp [intOf]; omega
          · have hj1 : j ≠ 0 := fun e => hj (.inl e)
            have hbf : bad = false := by
              cases bad with
              | true => exact absurd (.inr rfl) hj
              | false => rfl
            subst hbf
            clear hj
            have hdf2 : Hid (dFields (j - 1) (dField ⟨ys, false⟩).2 (ac2 ++ [(dField ⟨ys, false⟩).1]) = R2) := by
              obtain ⟨j, rfl⟩ : ∃ m, j = m + 1 := ⟨j - 1, by omega⟩
              unfold dFields at hdf
              rw [if_neg (by simp)] at hdf
              exact hide hdf
            have hdd : decide ((0 : Int) < (j : Int)) = true := decide_eq_true (by omega)
            clear hdf
            have S0 := FS.new HS.out HRV.out #[.string ⟨#[]⟩, .int .u8 0, .int .i64 0, .int .i64 0, .int .i64 0]
            obtain ⟨h, hh⟩ : ∃ h, wr.heap.size = h := ⟨_, rfl⟩
            rw [hh] at S0
            have r3 : b3 ≠ h := by have := S0.t.gb; have := S0.gh; have := HS.out.v.e3; omega
            have r1 : b1 ≠ h := by have := S0.t.gb; have := S0.gh; have := HS.out.v.e1; omega
            have rg : g ≠ h := by have := S0.gh; omega
            have HT0 := hide (text_v S0.t.v)
            obtain ⟨A0, hA0⟩ : ∃ a, dText ⟨ys, false⟩ = a := ⟨_, rfl⟩
            rw [hA0] at HT0
            have HA0 := hide hA0
            have HS0 := hide S0
            have HH := hide hh
            clear hA0 S0 hh
            go_wp2_with fail
            rw [HH.out]
            refine HT0.out.mono ?_
            rintro e w5 ⟨rfl, V, T⟩
            have S1 := HS0.out.turn V T
            have HT1 := hide (num_v (S1.set 0 (.string A0.1)).t.v)
            obtain ⟨A1, hA1⟩ : ∃ a, dNum A0.2 = a := ⟨_, rfl⟩
            rw [hA1] at HT1
            have HA1 := hide hA1
            have nn1 : 0 ≤ A1.1 := by rw [← hA1]; exact (dNum_nonneg _).1
            have nm1 : A1.1 < 256 := by rw [← hA1]; exact (dNum_nonneg _).2
            have f0 := S1.f.cell 0
            have ff0 := S1.f.free 0
            simp at f0
            have d3 := V.fnum
            have HS1 := hide (S1.set 0 (.string A0.1))
            clear hA1 S1 V T
            go_wp2_with fail
            refine HT1.out.mono ?_
            rintro e w6 ⟨rfl, V, T⟩
            have S1 := HS1.out.turn V T
            clear f0 ff0 d3 HT1
            have HT2 := hide (num_v (S1.set 1 (.int .u8 A1.1)).t.v)
            obtain ⟨A2, hA2⟩ : ∃ a, dNum A1.2 = a := ⟨_, rfl⟩
            rw [hA2] at HT2
            have HA2 := hide hA2
            have nn2 : 0 ≤ A2.1 := by rw [← hA2]; exact (dNum_nonneg _).1
            have nm2 : A2.1 < 256 := by rw [← hA2]; exact (dNum_nonneg _).2
            have f1 := S1.f.cell 1
            have ff1 := S1.f.free 1
            simp at f1
            have d3 := V.fnum
            have HS2 := hide (S1.set 1 (.int .u8 A1.1))
            clear hA2 S1 V T
            go_wp2_with fail
            refine HT2.out.mono ?_
            rintro e w7 ⟨rfl, V, T⟩
            have S1 := HS2.out.turn V T
            clear f1 ff1 d3 HT2
            have HT3 := hide (num_v (S1.set 2 (.int .i64 A2.1)).t.v)
            obtain ⟨A3, hA3⟩ : ∃ a, dNum A2.2 = a := ⟨_, rfl⟩
            rw [hA3] at HT3
            have HA3 := hide hA3
            have nn3 : 0 ≤ A3.1 := by rw [← hA3]; exact (dNum_nonneg _).1
            have nm3 : A3.1 < 256 := by rw [← hA3]; exact (dNum_nonneg _).2
            have f2 := S1.f.cell 2
            have ff2 := S1.f.free 2
            simp at f2
            have d3 := V.fnum
            have HS3 := hide (S1.set 2 (.int .i64 A2.1))
            clear hA3 S1 V T
            go_wp2_with fail
            refine HT3.out.mono ?_
            rintro e w8 ⟨rfl, V, T⟩
            have S1 := HS3.out.turn V T
            clear f2 ff2 d3 HT3
            have HT4 := hide (num_v (S1.set 3 (.int .i64 A3.1)).t.v)
            obtain ⟨A4, hA4⟩ : ∃ a, dNum A3.2 = a := ⟨_, rfl⟩
            rw [hA4] at HT4
            have HA4 := hide hA4
            have nn4 : 0 ≤ A4.1 := by rw [← hA4]; exact (dNum_nonneg _).1
            have nm4 : A4.1 < 256 := by rw [← hA4]; exact (dNum_nonneg _).2
            have f3 := S1.f.cell 3
            have ff3 := S1.f.free 3
            simp at f3
            have d3 := V.fnum
            have HS4 := hide (S1.set 3 (.int .i64 A3.1))
            clear hA4 S1 V T
            go_wp2_with fail
            refine HT4.out.mono ?_
            rintro e w9 ⟨rfl, V, T⟩
            have S1 := HS4.out.turn V T
            clear f3 ff3 d3 HT4
            have S2 := S1.set 4 (.int .i64 A4.1)
            have HS2 : Hid (FS b b1 b2 b3 g h w (w9.setCell ⟨h, 4, none⟩ (.int .i64 A4.1)) A4.2 #[.string nm, .int .i64 sz, v] #[.string A0.1, .int .u8 A1.1, .int .i64 A2.1, .int .i64 A3.1, .int .i64 A4.1] u2 acc v ac2) := S2
            have f0 := S1.f.cell 0
            have f1 := S1.f.cell 1
            have f2 := S1.f.cell 2
            have f3 := S1.f.cell 3
            have f4 := S1.f.cell 4
            have ff4 := S1.f.free 4
            have g2 := S1.t.h.cell 2
            simp at f0 f1 f2 f3 f4 g2
            have hfld : Hid (dField ⟨ys, false⟩ = (⟨A0.1, A1.1, A2.1, A3.1, A4.1⟩, A4.2)) := by
              unfold dField
              simp only []
              rw [HA0.out, HA1.out, HA2.out, HA3.out, HA4.out]
              exact rfl
            have haP : Hid (kF.M (w9.setCell ⟨h, 4, none⟩ (.int .i64 A4.1)) b (fun _ => False) ⟨A0.1, A1.1, A2.1, A3.1, A4.1⟩ [.string A0.1, .int .u8 A1.1, .int .i64 A2.1, .int .i64 A3.1, .int .i64 A4.1]) := hide ⟨_, _, rfl, rfl, _, _, rfl, rfl, _, _, rfl, rfl, _, _, rfl, rfl, rfl⟩
            have haF : Hid (∀ q, (w9.setCell ⟨h, 4, none⟩ (.int .i64 A4.1)).heap.size ≤ q → g < q) := hide (fun q hq => by have := S2.t.h.lt; omega)
            have haO : Hid (kF.R 46 (w9.setCell ⟨h, 4, none⟩ (.int .i64 A4.1)) b (fun q => g < q) v ac2) := hide (Kd.R_mono S2.r (fun q hq => hq.1))
            have haB : Hid (Below b w (w9.setCell ⟨h, 4, none⟩ (.int .i64 A4.1))) := hide S2.t.bw
            have haS : Hid (b ≤ (w9.setCell ⟨h, 4, none⟩ (.int .i64 A4.1)).heap.size) := hide (by have := S2.t.v.lt; omega)
            have haL : Hid ((ac2.length + 1) * 48 ≤ 140737488355328) := hide (by omega)
            have hsz9 := hide (size_set w9 ⟨h, 4, none⟩ (.int .i64 A4.1))
            clear S1 S2 V T HA0 HA1 HA2 HA3 HA4
            go_wp2_with (at_builtin; refine Kd.R_append kF (w0 := w) b rfl (.tmp 58) (.tmp 60) 42 46 (.agg #[.string ⟨#[]⟩, .int .u8 0, .int .i64 0, .int .i64 0, .int .i64 0]) 48 rfl Try.underlying42 infoF rfl (by decide) (by omega) v ac2 ⟨A0.1, A1.1, A2.1, A3.1, A4.1⟩ [.string A0.1, .int .u8 A1.1, .int .i64 A2.1, .int .i64 A3.1, .int .i64 A4.1] (fun q => g < q) (fun _ => False) rfl (by first | rfl | (rw [hsz9.out]; rfl)) haP.out (fun _ hk => hk.elim) haF.out haO.out haB.out haS.out haL.out ?_; intro v1 w1 hR1 hB1 hg1 hat1; obtain ⟨Av, cv, hv1⟩ := Kd.R_slice hR1; rw [List.length_append, List.length_singleton] at hv1; subst hv1; have S3 := HS2.out.t.grown hg1 (fun q e => haO.out.1 q e); have k2 := S3.h.cell 2; have kf2 := S3.h.free 2; simp at k2; have HS3 := hide S3; have hHR1 := hide hR1; clear S3 hR1 hB1 hg1 hat1)
            go_roundw
            case rel =>
              refine ⟨j - 1, A4.2, ac2 ++ [⟨A0.1, A1.1, A2.1, A3.1, A4.1⟩], _, ?_, ?_, HS3.out.set 2 _, Kd.R_far (p := ⟨g, 2, none⟩) hHR1.out (fun k hk => Nat.ne_of_gt hk) _, by rw [List.length_append, List.length_singleton]; omega⟩
              · rw [show ((j - 1 : Nat) : Int) = (j : Int) - 1 by omega]
              · have e1 := hdf2.out
                rw [hfld.out] at e1
                exact e1
            case measure => simp [intOf]; omega
end Go.Proofs.Ytkflofjcjolehaa

/-! Types: the small table of the statements: its cells, and what reads them. -/
namespace Go.Proofs.Ytkflofjcjolehaa
open Go.RowKit Go.Proofs.YtkflofjcjolehaaW.PrintWords
set_option maxHeartbeats 4000000
set_option maxRecDepth 100000
set_option linter.unusedSimpArgs false
set_option linter.unusedVariables false

theorem kF_C1 {w : World} {g : Nat} {x : Fl} (h : Has w g 46 #[.string x.nm, .int .u8 x.kd, .int .i64 x.at_, .int .i64 x.of, .int .i64 x.node]) : kF.C w (some ⟨g, 0, none⟩) [x].length [x] := by
  refine ⟨rfl, by simp, fun _ => ⟨_, rfl, fun j p hj => ?_⟩⟩
  match j, hj with
  | 0, hj =>
    obtain rfl := Option.some.inj hj
    refine ⟨x.cells, rfl, ⟨_, _, rfl, rfl, _, _, rfl, rfl, _, _, rfl, rfl, _, _, rfl, rfl, rfl⟩, fun i u hu => ?_⟩
    have := h.cell i
    match i, hu with
    | 0, hu => exact this.trans hu
    | 1, hu => exact this.trans hu
    | 2, hu => exact this.trans hu
    | 3, hu => exact this.trans hu
    | 4, hu => exact this.trans hu

theorem kF_C2 {w : World} {g : Nat} {x y : Fl} (h : Has w g 46 #[.string x.nm, .int .u8 x.kd, .int .i64 x.at_, .int .i64 x.of, .int .i64 x.node, .string y.nm, .int .u8 y.kd, .int .i64 y.at_, .int .i64 y.of, .int .i64 y.node]) :
    kF.C w (some ⟨g, 0, none⟩) [x, y].length [x, y] ∧ kF.C w (some ⟨g, 5, none⟩) [y].length [y] := by
  have c : ∀ i u, y.cells[i]? = some u → w.cell? ⟨g, 5 + i, none⟩ = some u := by
    intro i u hu
    have := h.cell (5 + i)
    match i, hu with
    | 0, hu => exact this.trans hu
    | 1, hu => exact this.trans hu
    | 2, hu => exact this.trans hu
    | 3, hu => exact this.trans hu
    | 4, hu => exact this.trans hu
  constructor
  · refine ⟨rfl, by simp, fun _ => ⟨_, rfl, fun j p hj => ?_⟩⟩
    match j, hj with
    | 0, hj =>
      obtain rfl := Option.some.inj hj
      refine ⟨x.cells, rfl, ⟨_, _, rfl, rfl, _, _, rfl, rfl, _, _, rfl, rfl, _, _, rfl, rfl, rfl⟩, fun i u hu => ?_⟩
      have := h.cell i
      match i, hu with
      | 0, hu => exact this.trans hu
      | 1, hu => exact this.trans hu
      | 2, hu => exact this.trans hu
      | 3, hu => exact this.trans hu
      | 4, hu => exact this.trans hu
    | 1, hj =>
      obtain rfl := Option.some.inj hj
      refine ⟨y.cells, rfl, ⟨_, _, rfl, rfl, _, _, rfl, rfl, _, _, rfl, rfl, _, _, rfl, rfl, rfl⟩, fun i u hu => ?_⟩
      have e : (⟨g, 0, none⟩ : Addr).add (1 * kF.sz + i) = ⟨g, 5 + i, none⟩ := by rw [show kF.sz = 5 from rfl]; unfold Addr.add; split <;> simp_all
      rw [e]
      exact c i u hu
  · refine ⟨rfl, by simp, fun _ => ⟨_, rfl, fun j p hj => ?_⟩⟩
    match j, hj with
    | 0, hj =>
      obtain rfl := Option.some.inj hj
      refine ⟨y.cells, rfl, ⟨_, _, rfl, rfl, _, _, rfl, rfl, _, _, rfl, rfl, _, _, rfl, rfl, rfl⟩, fun i u hu => ?_⟩
      have e : (⟨g, 5, none⟩ : Addr).add (0 * kF.sz + i) = ⟨g, 5 + i, none⟩ := by rw [show kF.sz = 5 from rfl]; unfold Addr.add; split <;> simp_all
      rw [e]
      exact c i u hu

theorem kT_C2 {w : World} {g : Nat} {x y : Tp} {A0 A1 : Option Addr} {c0 c1 : Nat} (h : Has w g 44 #[.string x.nm, .int .i64 x.sz, .slice A0 x.fs.length c0, .string y.nm, .int .i64 y.sz, .slice A1 y.fs.length c1])
    (l0 : x.fs.length ≤ c0) (h0 : kF.C w A0 x.fs.length x.fs) (l1 : y.fs.length ≤ c1) (h1 : kF.C w A1 y.fs.length y.fs) : kT.C w (some ⟨g, 0, none⟩) [x, y].length [x, y] := by
  refine ⟨rfl, by simp, fun _ => ⟨_, rfl, fun j p hj => ?_⟩⟩
  match j, hj with
  | 0, hj =>
    obtain rfl := Option.some.inj hj
    refine ⟨[.string x.nm, .int .i64 x.sz, .slice A0 x.fs.length c0], rfl, ⟨_, _, rfl, rfl, _, _, rfl, rfl, A0, c0, rfl, l0, h0⟩, fun i u hu => ?_⟩
    have := h.cell i
    match i, hu with
    | 0, hu => exact this.trans hu
    | 1, hu => exact this.trans hu
    | 2, hu => exact this.trans hu
  | 1, hj =>
    obtain rfl := Option.some.inj hj
    refine ⟨[.string y.nm, .int .i64 y.sz, .slice A1 y.fs.length c1], rfl, ⟨_, _, rfl, rfl, _, _, rfl, rfl, A1, c1, rfl, l1, h1⟩, fun i u hu => ?_⟩
    have := h.cell (3 + i)
    match i, hu with
    | 0, hu => exact this.trans hu
    | 1, hu => exact this.trans hu
    | 2, hu => exact this.trans hu

def fN (k : Int) : Fl := ⟨⟨#[110]⟩, 3, k, 0, 0⟩
def fL : Fl := ⟨⟨#[108]⟩, 7, 0, 0, 0⟩
def fH : Fl := ⟨⟨#[104]⟩, 2, 8, 0, 0⟩
def tA (k : Int) : Tp := ⟨⟨#[97]⟩, 24, [fN k]⟩
def tM : Tp := ⟨⟨#[109]⟩, 32, [fL, fH]⟩
def tM1 : Tp := ⟨⟨#[109]⟩, 32, [fH]⟩

/-- The small table, as the call lays it in blocks s, s1, g; the first field stands at k. -/
structure SmAt (w : World) (s s1 g : Nat) (k : Int) (o n c : Nat) : Prop where
  a : Has w s 46 #[.string ⟨#[110]⟩, .int .u8 3, .int .i64 k, .int .i64 0, .int .i64 0]
  b : Has w s1 46 #[.string ⟨#[108]⟩, .int .u8 7, .int .i64 0, .int .i64 0, .int .i64 0, .string ⟨#[104]⟩, .int .u8 2, .int .i64 8, .int .i64 0, .int .i64 0]
  t : Has w g 44 #[.string ⟨#[97]⟩, .int .i64 24, .slice (some ⟨s, 0, none⟩) 1 1, .string ⟨#[109]⟩, .int .i64 32, .slice (some ⟨s1, o, none⟩) n c]

theorem SmAt.below {w w' : World} {s s1 g : Nat} {k : Int} {o n c : Nat} (h : SmAt w s s1 g k o n c) (hb : Below w.heap.size w w') : SmAt w' s s1 g k o n c :=
  ⟨h.a.below hb h.a.lt, h.b.below hb h.b.lt, h.t.below hb h.t.lt⟩
theorem SmAt.full {w : World} {s s1 g : Nat} {k : Int} (h : SmAt w s s1 g k 0 2 2) : kT.C w (some ⟨g, 0, none⟩) [tA k, tM].length [tA k, tM] :=
  kT_C2 (x := tA k) (y := tM) h.t (Nat.le_refl _) (kF_C1 (x := fN k) h.a) (Nat.le_refl _) (kF_C2 (x := fL) (y := fH) h.b).1
theorem SmAt.cut {w : World} {s s1 g : Nat} {k : Int} (h : SmAt w s s1 g k 5 1 1) : kT.C w (some ⟨g, 0, none⟩) [tA k, tM1].length [tA k, tM1] :=
  kT_C2 (x := tA k) (y := tM1) h.t (Nat.le_refl _) (kF_C1 (x := fN k) h.a) (Nat.le_refl _) (kF_C2 (x := fL) (y := fH) h.b).2

theorem law_small (w : World) : Calls Try.prog 28 #[] w fun e w' => ∃ s s1 g, e = .returned (.slice (some ⟨g, 0, none⟩) 2 2) ∧ SmAt w' s s1 g 0 0 2 2 ∧ w.heap.size ≤ s ∧ w.heap.size ≤ g ∧ g ≠ s ∧ g ≠ s1 ∧ s ≠ s1 ∧ Below w.heap.size w w' := by
  go_enter Try.func28, Try.ntmps28
  go_wp2_with fail
  go_ret
  refine ⟨w.heap.size, w.heap.size + 1, w.heap.size + 2, rfl, ⟨?_, ?_, ?_⟩, Nat.le_refl _, by omega, by omega, by omega, by omega, bel_trans (bel_trans (below_box _ _) (below_box _ _)) (below_box _ _)⟩
  · exact ((Has.new _ _ _).alloc _).alloc _
  · have := fun o1 o2 => (Has.new (w.alloc o1) 46 #[.string ⟨#[108]⟩, .int .u8 7, .int .i64 0, .int .i64 0, .int .i64 0, .string ⟨#[104]⟩, .int .u8 2, .int .i64 8, .int .i64 0, .int .i64 0]).alloc o2
    simp only [World.size_alloc] at this
    exact this _ _
  · have := fun o1 o2 => (Has.new ((w.alloc o1).alloc o2) 44 #[.string ⟨#[97]⟩, .int .i64 24, .slice (some ⟨w.heap.size, 0, none⟩) 1 1, .string ⟨#[109]⟩, .int .i64 32, .slice (some ⟨w.heap.size + 1, 0, none⟩) 2 2])
    simp only [World.size_alloc] at this
    exact this _ _
end Go.Proofs.Ytkflofjcjolehaa

/-! Types: what Check, Encode answer, in plain Lean. -/
namespace Go.Proofs.Ytkflofjcjolehaa
open Go.RowKit Go.Proofs.YtkflofjcjolehaaW.PrintWords

/-- The first of d places from i on at which g is not 0. -/
def seekE (g : Nat → Int) : Nat → Nat → Option Nat
  | 0, _ => none
  | d + 1, i => if g i = 0 then seekE g d (i + 1) else some i

theorem seekE_none {g : Nat → Int} {d i : Nat} (h : seekE g d i = none) : ∀ j, i ≤ j → j < i + d → g j = 0 := by
  induction d generalizing i with
  | zero => intro j h1 h2; omega
  | succ d ih =>
    intro j h1 h2
    unfold seekE at h
    split at h
    · rename_i h0
      rcases Nat.eq_or_lt_of_le h1 with rfl | h3
      · exact h0
      · exact ih h j (by omega) (by omega)
    · cases h

theorem seekE_some {g : Nat → Int} {d i k : Nat} (h : seekE g d i = some k) : i ≤ k ∧ k < i + d ∧ g k ≠ 0 ∧ ∀ j, i ≤ j → j < k → g j = 0 := by
  induction d generalizing i with
  | zero => cases h
  | succ d ih =>
    unfold seekE at h
    split at h
    · rename_i h0
      obtain ⟨a, b, c, e⟩ := ih h
      refine ⟨by omega, by omega, c, fun j h1 h2 => ?_⟩
      rcases Nat.eq_or_lt_of_le h1 with rfl | h3
      · exact h0
      · exact e j (by omega) h2
    · rename_i h0
      obtain rfl := Option.some.inj h
      exact ⟨Nat.le_refl _, by omega, h0, fun j h1 h2 => by omega⟩

theorem seekE_of_none {g : Nat → Int} {d i : Nat} (h : ∀ j, i ≤ j → j < i + d → g j = 0) : seekE g d i = none := by
  cases hs : seekE g d i with
  | none => rfl
  | some k =>
    obtain ⟨a, b, c, _⟩ := seekE_some hs
    exact absurd (h k a b) c

theorem seekE_of_some {g : Nat → Int} {d i k : Nat} (h1 : i ≤ k) (h2 : k < i + d) (h3 : g k ≠ 0) (h4 : ∀ j, i ≤ j → j < k → g j = 0) : seekE g d i = some k := by
  cases hs : seekE g d i with
  | none => exact absurd (seekE_none hs k h1 h2) h3
  | some m =>
    obtain ⟨a, b, c, e⟩ := seekE_some hs
    rcases Nat.lt_trichotomy m k with h | h | h
    · exact absurd (h4 m a h) c
    · rw [h]
    · exact absurd (e k h1 h) h3

theorem seekE_congr {f g : Nat → Int} {d i : Nat} (h : ∀ j, i ≤ j → j < i + d → f j = g j) : seekE f d i = seekE g d i := by
  induction d generalizing i with
  | zero => rfl
  | succ d ih =>
    unfold seekE
    rw [h i (Nat.le_refl _) (by omega), ih (fun j h1 h2 => h j (by omega) (by omega))]

theorem getD_map {α β : Type} (f : α → β) (l : List α) (i : Nat) (z : α) : (l.map f).getD i (f z) = f (l.getD i z) := by
  rw [List.getD_eq_getElem?_getD, List.getD_eq_getElem?_getD, List.getElem?_map]
  cases l[i]? <;> rfl
theorem wr64 {x : Int} (h0 : -9223372036854775808 ≤ x) (h1 : x ≤ 9223372036854775807) : wrap64 x = x := by unfold wrap64; omega
def valK (fs : List Fl) : Bool := !(hasK fs [3, 5, 6])
def mixF (fs : List Fl) : Int × Int := if (objK fs = false ∧ valK fs = false) ∨ (hasK fs [2, 4] = true ∧ hasK fs [7] = false) then (0, 106) else (0, 0)
/-- What is wrong with a type, where o is the first place of its name. -/
def oneT (o : Int) (nm : ByteArray) (sz : Int) (fs : List Fl) (i : Nat) : Int × Int :=
  if i ≥ 32 then (0, 4) else if nameMay nm = false then (0, 100) else if o < i then (0, 104)
  else if Int.tmod sz 8 ≠ 0 ∨ sz < 8 ∨ sz > 128 then (0, 101) else if fs.length > 8 then (8, 4)
  else match seekE (fieldF sz fs) fs.length 0 with
    | some k => ((k : Int), fieldF sz fs k)
    | none => mixF fs
/-- What is wrong with a type, by those ahead of it. -/
def oneF (l : List Tp) (i : Nat) : Int × Int := oneT (max (ofIdx l (l.getD i zT).nm) 0) (l.getD i zT).nm (l.getD i zT).sz (l.getD i zT).fs i
/-- The first field of a type that holds what it may not. -/
def badHold (l : List Tp) (t : Tp) : Option Nat := seekE (fun k => if holdsF l (t.fs.getD k zF) = true then 0 else 1) t.fs.length 0
def checkF (l : List Tp) : Int × Int × Int :=
  match seekE (fun i => (oneF l i).2) l.length 0 with
  | some i => ((i : Int), (oneF l i).1, (oneF l i).2)
  | none => match seekE (fun i => if badHold l (l.getD i zT) = none then 0 else 1) l.length 0 with
    | some i => ((i : Int), (((badHold l (l.getD i zT)).getD 0 : Nat) : Int), 105)
    | none => (0, 0, 0)

/-- A field's bytes; a type's, those of its fields behind it: nothing, where a number has no room. -/
def encFl (f : Fl) : Option ByteArray := if smallL [(f.nm.size : Int), f.at_, f.of, f.node] = true then some (putS [(f.nm.size : Int)] ++ f.nm ++ putS [f.kd, f.at_, f.of, f.node]) else none
def encFls : List Fl → ByteArray → Option ByteArray
  | [], s => some s
  | f :: l, s => (encFl f).bind fun x => encFls l (s ++ x)
def encHd (t : Tp) : Option ByteArray := if smallL [(t.nm.size : Int), t.sz, (t.fs.length : Int)] = true then some (putS [(t.nm.size : Int)] ++ t.nm ++ putS [t.sz, (t.fs.length : Int)]) else none
def encTps : List Tp → ByteArray → Option ByteArray
  | [], s => some s
  | t :: l, s => (encHd t).bind fun x => (encFls t.fs (s ++ x)).bind fun y => encTps l y
def encodeF (l : List Tp) : ByteArray × Int :=
  if smallL [(l.length : Int)] = true then match encTps l (putS [(l.length : Int)]) with
    | some s => (s, 0)
    | none => (⟨#[]⟩, 2)
  else (⟨#[]⟩, 2)

theorem putS_size (l : List Int) : (putS l).size = l.length := by unfold putS; rw [strOfNums_size_, List.length_map]
theorem smallL_all {l : List Int} (h : smallL l = true) : ∀ n ∈ l, 0 ≤ n ∧ n ≤ 255 := by
  intro n hn
  unfold smallL at h
  simp only [Bool.not_eq_true', List.any_eq_false] at h
  have := h n hn
  unfold noByte at this
  simp at this
  omega
theorem encFl_size {f : Fl} {x : ByteArray} (h : encFl f = some x) : x.size ≤ 260 := by
  unfold encFl at h
  split at h
  · rename_i hs
    have h1 := (smallL_all hs (f.nm.size : Int) (by simp)).2
    obtain rfl := Option.some.inj h
    rw [ByteArray.size_append, ByteArray.size_append, putS_size, putS_size]
    simp
    omega
  · cases h
theorem encHd_size {t : Tp} {x : ByteArray} (h : encHd t = some x) : x.size ≤ 258 ∧ t.fs.length ≤ 255 := by
  unfold encHd at h
  split at h
  · rename_i hs
    have h1 := (smallL_all hs (t.nm.size : Int) (by simp)).2
    have h2 := (smallL_all hs (t.fs.length : Int) (by simp)).2
    obtain rfl := Option.some.inj h
    rw [ByteArray.size_append, ByteArray.size_append, putS_size, putS_size]
    simp
    omega
  · cases h

/-- A table that is not beyond all bounds. -/
def okFl (f : Fl) : Bool := decide (f.nm.size ≤ 1000000000000000) && decide (0 ≤ f.kd) && decide (f.kd ≤ 255)
def okTp (t : Tp) : Bool := decide (t.nm.size ≤ 1000000000000000) && decide (t.fs.length ≤ 1000000000000000) && t.fs.all okFl
def okTps (l : List Tp) : Bool := decide (l.length ≤ 1000000000000000) && l.all okTp
theorem okTp_get {l : List Tp} (h : okTps l = true) (i : Nat) (hi : i < l.length) : okTp (l.getD i zT) = true := by
  unfold okTps at h
  rw [Bool.and_eq_true] at h
  have := List.all_eq_true.1 h.2 (l.getD i zT)
  rw [List.getD_eq_getElem?_getD, List.getElem?_eq_getElem hi] at this ⊢
  exact this (List.getElem_mem hi)
theorem okTps_len {l : List Tp} (h : okTps l = true) : l.length ≤ 1000000000000000 := by
  unfold okTps at h
  rw [Bool.and_eq_true] at h
  exact of_decide_eq_true h.1
theorem okTp_nm {t : Tp} (h : okTp t = true) : t.nm.size ≤ 1000000000000000 ∧ t.fs.length ≤ 1000000000000000 ∧ ∀ f ∈ t.fs, okFl f = true := by
  unfold okTp at h
  rw [Bool.and_eq_true, Bool.and_eq_true] at h
  exact ⟨of_decide_eq_true h.1.1, of_decide_eq_true h.1.2, List.all_eq_true.1 h.2⟩
theorem okFl_nm {f : Fl} (h : okFl f = true) : f.nm.size ≤ 1000000000000000 ∧ 0 ≤ f.kd ∧ f.kd ≤ 255 := by
  unfold okFl at h
  rw [Bool.and_eq_true, Bool.and_eq_true] at h
  exact ⟨of_decide_eq_true h.1.1, of_decide_eq_true h.1.2, of_decide_eq_true h.2⟩

/-- A table as it may be handed in. -/
def rdTp (t : Tp) : Prop := t.fs.length ≤ 9223372036854775807 ∧ ∀ f ∈ t.fs, 0 ≤ f.kd ∧ f.kd ≤ 255
def rdTps (l : List Tp) : Prop := l.length ≤ 9223372036854775807 ∧ ∀ t ∈ l, rdTp t
/-- More of a type than a statement looks at. -/
def largeT (t : Tp) : Bool := decide (t.nm.size > 300) || decide (t.fs.length > 300) || t.fs.any fun f => decide (f.nm.size > 300)
def largeF (l : List Tp) : Bool := decide (l.length > 40) || l.any largeT

/-- A table of which no statement looks away. -/
structure Small (l : List Tp) : Prop where
  len : l.length ≤ 40
  nm : ∀ t ∈ l, t.nm.size ≤ 300
  fs : ∀ t ∈ l, t.fs.length ≤ 300
  fn : ∀ t ∈ l, ∀ f ∈ t.fs, f.nm.size ≤ 300
  kd : ∀ t ∈ l, ∀ f ∈ t.fs, 0 ≤ f.kd ∧ f.kd ≤ 255

theorem small_of {l : List Tp} (h : rdTps l) (hl : largeF l = false) : Small l := by
  unfold largeF at hl
  rw [Bool.or_eq_false_iff] at hl
  have h2 := List.any_eq_false.1 hl.2
  have key : ∀ t ∈ l, t.nm.size ≤ 300 ∧ t.fs.length ≤ 300 ∧ ∀ f ∈ t.fs, f.nm.size ≤ 300 := by
    intro t ht
    have h3 : ¬ largeT t = true := h2 t ht
    unfold largeT at h3
    rw [Bool.not_eq_true, Bool.or_eq_false_iff, Bool.or_eq_false_iff] at h3
    have a := of_decide_eq_false h3.1.1
    have b := of_decide_eq_false h3.1.2
    refine ⟨by omega, by omega, fun f hf => ?_⟩
    have c := List.any_eq_false.1 h3.2 f hf
    simp at c
    omega
  have a := of_decide_eq_false hl.1
  exact ⟨by omega, fun t ht => (key t ht).1, fun t ht => (key t ht).2.1, fun t ht => (key t ht).2.2, fun t ht => (h.2 t ht).2⟩

theorem Small.ok {l : List Tp} (h : Small l) : okTps l = true := by
  unfold okTps
  rw [decide_eq_true (by have := h.len; omega), Bool.true_and, List.all_eq_true]
  intro t ht
  unfold okTp
  rw [decide_eq_true (by have := h.nm t ht; omega), decide_eq_true (by have := h.fs t ht; omega), Bool.true_and, Bool.true_and, List.all_eq_true]
  intro f hf
  unfold okFl
  have := h.fn t ht f hf
  have := h.kd t ht f hf
  rw [decide_eq_true (by omega), decide_eq_true (by omega), decide_eq_true (by omega)]
  rfl
end Go.Proofs.Ytkflofjcjolehaa

/-! Types: value, one, Check. -/
namespace Go.Proofs.Ytkflofjcjolehaa
open Go.RowKit Go.Proofs.YtkflofjcjolehaaW.PrintWords
set_option maxHeartbeats 4000000
set_option maxRecDepth 100000
set_option linter.unusedSimpArgs false
set_option linter.unusedVariables false

theorem ty_value (w : World) (nm : ByteArray) (sz : Int) (A : Option Addr) (c : Nat) (l : List Fl) (n : Nat) (hl : l.length = n) (hC : kF.C w A n l) :
    Calls Try.prog 65 #[.agg #[.string nm, .int .i64 sz, .slice A n c]] w fun e w' => e = .returned (.bool (valK l)) ∧ Below w.heap.size w w' := by
  have hB := (below_box w (.cells #[.string nm, .int .i64 sz, .slice A n c] 44))
  have hB2 := hide (bel_trans hB (below_box _ (.cells #[.int .u8 3, .int .u8 5, .int .u8 6] 5)))
  have hk := u8_lit (w.alloc (.cells #[.string nm, .int .i64 sz, .slice A n c] 44)) [3, 5, 6] (by decide)
  have hq := hide (ty_has _ nm sz A c l n hl (Kd.C_below hC hB2.out) _ 3 [3, 5, 6] 3 rfl hk)
  unfold valK
  obtain ⟨r, hr⟩ : ∃ r, hasK l [3, 5, 6] = r := ⟨_, rfl⟩
  rw [hr] at hq ⊢
  rw [World.size_alloc] at hq
  clear hr hC hl hB hk
  go_enter Try.func65, Try.ntmps65
  go_wp2_with fail
  refine hq.out.mono ?_
  rintro e w1 ⟨rfl, hb1⟩
  go_wp2_with fail
  go_ret
  exact ⟨rfl, bel_trans hB2.out hb1⟩

theorem lit_new (W : World) (l : List Int) (cs : Array Value) (b : Nat) (hb : W.heap.size = b) (hcs : cs = (l.map (Value.int .u8)).toArray) (hn : l.length ≤ 9223372036854775807) : (Kd.int .u8).C (W.alloc (.cells cs 5)) (some ⟨b, 0, none⟩) l.length l := by
  subst hb hcs
  exact u8_lit W l hn

theorem ty_one (w : World) (A : Option Addr) (c : Nat) (l : List Tp) (n : Nat) (hl : l.length = n) (hC : kT.C w A n l) (hc : n ≤ c) (i : Nat) (hi : i < n) (hok : okTps l = true) :
    Calls Try.prog 42 #[.slice A n c, .int .i64 i] w fun e w' => e = .returned (.tuple #[.int .i64 (oneF l i).1, .int .i64 (oneF l i).2]) ∧ Below w.heap.size w w' := by
  obtain ⟨t, ht⟩ : ∃ x, l[i]? = some x := ⟨_, List.getElem?_eq_getElem (by omega)⟩
  obtain ⟨cb, off, A2, c2, rfl, e0, e1, e2, hl2, hF⟩ := tp_at hC (Below.refl _ w) ht
  have hi1 : (i : Int) < n := by omega
  have hi0 : (0 : Int) ≤ i := by omega
  have hg : l.getD i zT = t := by rw [List.getD_eq_getElem?_getD, ht]; rfl
  have hot := okTp_nm (by have := okTp_get hok i (by omega); rwa [hg] at this)
  unfold oneF
  rw [hg]
  have HOF := hide (fun W (hW : Below w.heap.size w W) => ty_of W (some ⟨cb, off, none⟩) c l n hl (Kd.C_below hC hW) t.nm)
  obtain ⟨o, ho⟩ : ∃ o, max (ofIdx l t.nm) 0 = o := ⟨_, rfl⟩
  obtain ⟨o2, ho2⟩ : ∃ o, decide (ofIdx l t.nm ≥ 0) = o := ⟨_, rfl⟩
  rw [ho, ho2] at HOF
  rw [ho]
  obtain ⟨nm, sz, fs⟩ := t
  simp only [] at e0 e1 e2 hl2 hF hot HOF ⊢
  obtain ⟨k1, k2, k3⟩ := hot
  have k3' := hide (fun f hf => (okFl_nm (k3 f hf)).1)
  have HM := hide (fun W => name_may W nm (by omega))
  obtain ⟨N, hN⟩ : ∃ N, fs.length = N := ⟨_, rfl⟩
  rw [hN] at e2 hl2 hF k2
  have HN := hide hN
  obtain ⟨m, hm⟩ : ∃ m, nameMay nm = m := ⟨_, rfl⟩
  rw [hm] at HM
  have HMM := hide hm
  have HK2 := hide k2
  have HL2 := hide hl2
  have HB := hide (below_box w (.cells #[.string nm, .int .i64 sz, .slice A2 N c2] 44))
  have HFL := hide (fun W (hW : Below w.heap.size w W) (k : Nat) (hk : k < N) => ty_field W nm sz A2 c2 fs N hN (Kd.C_below hF hW) hl2 k hk (fun f hf => by have := k3'.out f hf; omega))
  have HOB := hide (fun W (hW : Below w.heap.size w W) => ty_object W nm sz A2 c2 fs N hN (Kd.C_below hF hW))
  have HVA := hide (fun W (hW : Below w.heap.size w W) => ty_value W nm sz A2 c2 fs N hN (Kd.C_below hF hW))
  have HH2 := hide (fun W (hW : Below w.heap.size w W) b (hb : W.heap.size = b) => ty_has _ nm sz A2 c2 fs N hN (Kd.C_below hF (bel_trans hW (below_box W _))) _ 2 [2, 4] 2 rfl (lit_new W [2, 4] #[.int .u8 2, .int .u8 4] b hb rfl (by decide)))
  have HH7 := hide (fun W (hW : Below w.heap.size w W) b (hb : W.heap.size = b) => ty_has _ nm sz A2 c2 fs N hN (Kd.C_below hF (bel_trans hW (below_box W _))) _ 1 [7] 1 rfl (lit_new W [7] #[.int .u8 7] b hb rfl (by decide)))
  obtain ⟨p1, hp1⟩ : ∃ p, objK fs = p := ⟨_, rfl⟩
  obtain ⟨p2, hp2⟩ : ∃ p, valK fs = p := ⟨_, rfl⟩
  obtain ⟨p3, hp3⟩ : ∃ p, hasK fs [2, 4] = p := ⟨_, rfl⟩
  obtain ⟨p4, hp4⟩ : ∃ p, hasK fs [7] = p := ⟨_, rfl⟩
  rw [hp1] at HOB
  rw [hp2] at HVA
  rw [hp3] at HH2
  rw [hp4] at HH7
  have HMX : Hid (mixF fs = if (p1 = false ∧ p2 = false) ∨ (p3 = true ∧ p4 = false) then (0, 106) else (0, 0)) := by unfold mixF; rw [hp1, hp2, hp3, hp4]; exact hide rfl
  obtain ⟨R, hR⟩ : ∃ R, oneT o nm sz fs i = R := ⟨_, rfl⟩
  rw [hR]
  unfold oneT at hR
  have HR := hide hR
  have hne : cb ≠ w.heap.size := by
    rcases kd_rows hC (by decide) with rfl | ⟨b, o, h, hlt, _⟩
    · simp at ht
    · cases h; omega
  clear hC hl ht hg hok ho ho2 hN hm hl2 hF k1 k2 k3 hp1 hp2 hp3 hp4 hc hR
  go_enter Try.func42, Try.ntmps42
  go_wp2_with fail
  refine (HOF.out _ HB.out).mono ?_
  rintro e w1 ⟨rfl, hb1⟩
  have G1 := hide ((Has.new w 44 #[.string nm, .int .i64 sz, .slice A2 N c2]).below hb1 (by simp))
  have HB1 := hide (bel_trans HB.out hb1)
  obtain ⟨g, hgg⟩ : ∃ g, w.heap.size = g := ⟨_, rfl⟩
  rw [hgg] at G1 hne ⊢
  have HG := hide hgg
  clear hb1 hgg e0 e1 e2 HOF
  have g0 := G1.out.cell 0
  have g1 := G1.out.cell 1
  have g2 := G1.out.cell 2
  simp at g0 g1 g2
  by_cases c1 : i ≥ 32
  · have d1 : decide ((32 : Int) ≤ (i : Int)) = true := decide_eq_true (by omega)
    go_wp2_with fail
    go_ret2
    have e := HR.out
    rw [if_pos c1] at e
    exact ⟨by rw [← e]; rfl, HB1.out⟩
  have d1 : decide ((32 : Int) ≤ (i : Int)) = false := decide_eq_false (by omega)
  go_wp2_with fail
  refine (HM.out _).mono ?_
  rintro e w2 ⟨rfl, hb2⟩
  have G2 := hide (G1.out.below hb2 G1.out.lt)
  have HB2 := hide (bel_trans HB1.out hb2)
  clear hb2 g0 g1 g2 HB1 G1
  have g0 := G2.out.cell 0
  have g1 := G2.out.cell 1
  have g2 := G2.out.cell 2
  simp at g0 g1 g2
  cases m with
  | false =>
    go_wp2_with fail
    go_ret2
    have e := HR.out
    rw [if_neg c1, if_pos HMM.out] at e
    exact ⟨by rw [← e]; rfl, HB2.out⟩
  | true =>
  have HR1 : Hid _ := HR.out
  rw [if_neg c1, if_neg (by rw [HMM.out]; simp)] at HR1
  clear HR
  by_cases c3 : o < (i : Int)
  · have d3 : decide (o < (i : Int)) = true := decide_eq_true c3
    go_wp2_with fail
    go_ret2
    have e := HR1.out
    rw [if_pos c3] at e
    exact ⟨by rw [← e]; rfl, HB2.out⟩
  have d3 : decide (o < (i : Int)) = false := decide_eq_false c3
  rw [if_neg c3] at HR1
  by_cases c4 : Int.tmod sz 8 ≠ 0 ∨ sz < 8 ∨ sz > 128
  · have HR2 := hide HR1.out
    rw [if_pos c4] at HR2
    by_cases c5 : Int.tmod sz 8 = 0
    · have d5 : (Int.tmod sz 8 != 0) = false := by simp [c5]
      by_cases c6 : sz < 8
      · have d6 : decide (sz < 8) = true := decide_eq_true c6
        clear c4 c5 c6
        go_wp2_with fail
        go_ret2
        exact ⟨by rw [← HR2.out]; rfl, HB2.out⟩
      · have d6 : decide (sz < 8) = false := decide_eq_false c6
        have d7 : decide (128 < sz) = true := decide_eq_true (by omega)
        clear c4 c5 c6
        go_wp2_with fail
        go_ret2
        exact ⟨by rw [← HR2.out]; rfl, HB2.out⟩
    · have d5 : (Int.tmod sz 8 != 0) = true := by simp [c5]
      clear c4 c5
      go_wp2_with fail
      go_ret2
      exact ⟨by rw [← HR2.out]; rfl, HB2.out⟩
  have d5 : (Int.tmod sz 8 != 0) = false := by have : Int.tmod sz 8 = 0 := by omega
                                               simp [this]
  have d6 : decide (sz < 8) = false := decide_eq_false (by omega)
  have d7 : decide (128 < sz) = false := decide_eq_false (by omega)
  have HR2 := hide HR1.out
  rw [if_neg c4, HN.out] at HR2
  clear HR1 c4
  by_cases c8 : N > 8
  · have d8 : decide ((8 : Int) < (N : Int)) = true := decide_eq_true (by omega)
    go_wp2_with fail
    go_ret2
    have e := HR2.out
    rw [if_pos c8] at e
    exact ⟨by rw [← e]; rfl, HB2.out⟩
  have d8 : decide ((8 : Int) < (N : Int)) = false := decide_eq_false (by omega)
  rw [if_neg c8] at HR2
  have hN8 : N ≤ 8 := by omega
  clear c8
  go_wp2_with fail
  go_loopw [57] (fun x wr => ∃ (k : Nat), k ≤ N ∧ x = .int .i64 k ∧ (∀ j, j < k → fieldF sz fs j = 0) ∧ Has wr g 44 #[.string nm, .int .i64 sz, .slice A2 N c2] ∧ Below w.heap.size w wr) (fun x _ => N - (intOf x).toNat)
  case atStart => exact ⟨0, Nat.zero_le _, rfl, fun j hj => by omega, G2.out, HB2.out⟩
  case round =>
    clear G2 HB2 g0 g1 g2
    obtain ⟨k, hk, rfl, hall, hH, hB⟩ := hrel
    have HALL := hide hall
    have HH := hide hH
    have HBB := hide hB
    clear hall hB
    have g0 := hH.cell 0
    have g1 := hH.cell 1
    have g2 := hH.cell 2
    simp at g0 g1 g2
    clear hH
    by_cases hkN : k < N
    · have hk1 : (k : Int) < N := by omega
      have hk0 : (0 : Int) ≤ k := by omega
      have HQ := hide (HFL.out _ HBB.out k hkN)
      obtain ⟨r, hr⟩ : ∃ r, fieldF sz fs k = r := ⟨_, rfl⟩
      rw [hr] at HQ
      have HRR := hide hr
      clear hr
      by_cases hr0 : r = 0
      · have dr : (r != 0) = false := by simp [hr0]
        have Hr0 := hide hr0
        clear hr0
        go_wp2_with fail
        refine HQ.out.mono ?_
        rintro e w3 ⟨rfl, hb3⟩
        go_wp2_with fail
        go_roundw
        case rel =>
          refine ⟨k + 1, by omega, by simp, fun j hj => ?_, HH.out.below hb3 HH.out.lt, bel_trans HBB.out hb3⟩
          rcases Nat.lt_or_ge j k with h | h
          · exact HALL.out j h
          · obtain rfl : j = k := by omega
            rw [HRR.out, Hr0.out]
        case measure => simp [intOf]; omega
      · have dr : (r != 0) = true := by simp [hr0]
        have Hr0 := hide hr0
        clear hr0
        go_wp2_with fail
        refine HQ.out.mono ?_
        rintro e w3 ⟨rfl, hb3⟩
        go_wp2_with fail
        go_ret2
        have e := HR2.out
        rw [seekE_of_some (Nat.zero_le k) (by omega) (by rw [HRR.out]; exact Hr0.out) (fun j _ hj => HALL.out j hj)] at e
        simp only [HRR.out] at e
        exact ⟨by rw [← e]; rfl, bel_trans HBB.out hb3⟩
    · obtain rfl : k = N := by omega
      have e : Hid (mixF fs = R) := by
        have e := HR2.out
        rw [seekE_of_none (fun j _ hj => HALL.out j (by omega))] at e
        exact hide e
      rw [HMX.out] at e
      clear HR2 HALL HMX
      go_wp2_with fail
      refine (HOB.out _ HBB.out).mono ?_
      rintro e w3 ⟨rfl, hb3⟩
      have G3 := hide (HH.out.below hb3 HH.out.lt)
      have HB3 := hide (bel_trans HBB.out hb3)
      -- mixed
      clear hb3 HBB HH g0 g1 g2
      have g0 := G3.out.cell 0
      have g1 := G3.out.cell 1
      have g2 := G3.out.cell 2
      simp at g0 g1 g2
      cases p1 with
      | true =>
        cases p3 with
        | false =>
          go_wp2_with fail
          refine (HH2.out _ HB3.out _ rfl).mono ?_
          rintro e w4 ⟨rfl, hb4⟩
          have G4 := hide ((G3.out.alloc _).below hb4 (G3.out.alloc _).lt)
          have HB4 := hide (bel_trans (bel_trans HB3.out (below_box _ _)) hb4)
          clear hb4 G3 HB3
          go_wp2_with fail
          go_ret2
          have e1 := e.out
          simp at e1
          exact ⟨by rw [← e1]; rfl, HB4.out⟩
        | true =>
          go_wp2_with fail
          refine (HH2.out _ HB3.out _ rfl).mono ?_
          rintro e w4 ⟨rfl, hb4⟩
          have G4 := hide ((G3.out.alloc _).below hb4 (G3.out.alloc _).lt)
          have HB4 := hide (bel_trans (bel_trans HB3.out (below_box _ _)) hb4)
          clear hb4 G3 HB3
          clear g0 g1 g2
          have g0 := G4.out.cell 0
          have g1 := G4.out.cell 1
          have g2 := G4.out.cell 2
          simp at g0 g1 g2
          cases p4 with
          | false =>
            go_wp2_with fail
            refine (HH7.out _ HB4.out _ rfl).mono ?_
            rintro e w5 ⟨rfl, hb5⟩
            have G5 := hide ((G4.out.alloc _).below hb5 (G4.out.alloc _).lt)
            have HB5 := hide (bel_trans (bel_trans HB4.out (below_box _ _)) hb5)
            clear hb5 G4 HB4
            go_wp2_with fail
            go_ret2
            have e1 := e.out
            simp at e1
            exact ⟨by rw [← e1]; rfl, HB5.out⟩
          | true =>
            go_wp2_with fail
            refine (HH7.out _ HB4.out _ rfl).mono ?_
            rintro e w5 ⟨rfl, hb5⟩
            have G5 := hide ((G4.out.alloc _).below hb5 (G4.out.alloc _).lt)
            have HB5 := hide (bel_trans (bel_trans HB4.out (below_box _ _)) hb5)
            clear hb5 G4 HB4
            go_wp2_with fail
            go_ret2
            have e1 := e.out
            simp at e1
            exact ⟨by rw [← e1]; rfl, HB5.out⟩
      | false =>
        cases p2 with
        | false =>
          go_wp2_with fail
          refine (HVA.out _ HB3.out).mono ?_
          rintro e w4 ⟨rfl, hb4⟩
          have G4 := hide (G3.out.below hb4 G3.out.lt)
          have HB4 := hide (bel_trans HB3.out hb4)
          clear hb4 G3 HB3
          go_wp2_with fail
          go_ret2
          have e1 := e.out
          simp at e1
          exact ⟨by rw [← e1]; rfl, HB4.out⟩
        | true =>
          go_wp2_with fail
          refine (HVA.out _ HB3.out).mono ?_
          rintro e w4 ⟨rfl, hb4⟩
          have G4 := hide (G3.out.below hb4 G3.out.lt)
          have HB4 := hide (bel_trans HB3.out hb4)
          clear hb4 G3 HB3
          clear g0 g1 g2
          have g0 := G4.out.cell 0
          have g1 := G4.out.cell 1
          have g2 := G4.out.cell 2
          simp at g0 g1 g2
          cases p3 with
          | false =>
            go_wp2_with fail
            refine (HH2.out _ HB4.out _ rfl).mono ?_
            rintro e w5 ⟨rfl, hb5⟩
            have G5 := hide ((G4.out.alloc _).below hb5 (G4.out.alloc _).lt)
            have HB5 := hide (bel_trans (bel_trans HB4.out (below_box _ _)) hb5)
            clear hb5 G4 HB4
            go_wp2_with fail
            go_ret2
            have e1 := e.out
            simp at e1
            exact ⟨by rw [← e1]; rfl, HB5.out⟩
          | true =>
            go_wp2_with fail
            refine (HH2.out _ HB4.out _ rfl).mono ?_
            rintro e w5 ⟨rfl, hb5⟩
            have G5 := hide ((G4.out.alloc _).below hb5 (G4.out.alloc _).lt)
            have HB5 := hide (bel_trans (bel_trans HB4.out (below_box _ _)) hb5)
            clear hb5 G4 HB4
            clear g0 g1 g2
            have g0 := G5.out.cell 0
            have g1 := G5.out.cell 1
            have g2 := G5.out.cell 2
            simp at g0 g1 g2
            cases p4 with
            | false =>
              go_wp2_with fail
              refine (HH7.out _ HB5.out _ rfl).mono ?_
              rintro e w6 ⟨rfl, hb6⟩
              have G6 := hide ((G5.out.alloc _).below hb6 (G5.out.alloc _).lt)
              have HB6 := hide (bel_trans (bel_trans HB5.out (below_box _ _)) hb6)
              clear hb6 G5 HB5
              go_wp2_with fail
              go_ret2
              have e1 := e.out
              simp at e1
              exact ⟨by rw [← e1]; rfl, HB6.out⟩
            | true =>
              go_wp2_with fail
              refine (HH7.out _ HB5.out _ rfl).mono ?_
              rintro e w6 ⟨rfl, hb6⟩
              have G6 := hide ((G5.out.alloc _).below hb6 (G5.out.alloc _).lt)
              have HB6 := hide (bel_trans (bel_trans HB5.out (below_box _ _)) hb6)
              clear hb6 G5 HB5
              go_wp2_with fail
              go_ret2
              have e1 := e.out
              simp at e1
              exact ⟨by rw [← e1]; rfl, HB6.out⟩

theorem ty_check (w : World) (A : Option Addr) (c : Nat) (l : List Tp) (n : Nat) (hl : l.length = n) (hC : kT.C w A n l) (hc : n ≤ c) (hok : okTps l = true) :
    Calls Try.prog 18 #[.slice A n c] w fun e w' => e = .returned (.tuple #[.int .i64 (checkF l).1, .int .i64 (checkF l).2.1, .int .i64 (checkF l).2.2]) ∧ Below w.heap.size w w' := by
  have hn : n ≤ 1000000000000000 := by rw [← hl]; exact okTps_len hok
  have HL := hide hl
  have HC := hide hC
  have HOK := hide hok
  have HON := hide (fun W (hW : Below w.heap.size w W) i (hi : i < n) => ty_one W A c l n hl (Kd.C_below hC hW) hc i hi hok)
  have HHO := hide (fun W (hW : Below w.heap.size w W) f => ty_holds W A c l n hl (Kd.C_below hC hW) f)
  obtain ⟨R, hR⟩ : ∃ R, checkF l = R := ⟨_, rfl⟩
  rw [hR]
  unfold checkF at hR
  rw [hl] at hR
  have HR := hide hR
  clear hl hC hc hok hR
  go_enter Try.func18, Try.ntmps18
  go_wp2_with fail
  go_loopw [14] (fun x wr => ∃ (k : Nat), k ≤ n ∧ x = .int .i64 k ∧ (∀ j, j < k → (oneF l j).2 = 0) ∧ Below w.heap.size w wr) (fun x _ => n - (intOf x).toNat)
  case atStart => exact ⟨0, Nat.zero_le _, rfl, fun j hj => by omega, Below.refl _ w⟩
  case round =>
    obtain ⟨k, hk, rfl, hall, hB⟩ := hrel
    have HALL := hide hall
    have HBB := hide hB
    clear hall hB
    by_cases hkn : k < n
    · have hk1 : (k : Int) < n := by omega
      have hk0 : (0 : Int) ≤ k := by omega
      have HQ := hide (HON.out _ HBB.out k hkn)
      obtain ⟨r1, hr1⟩ : ∃ r, (oneF l k).1 = r := ⟨_, rfl⟩
      obtain ⟨r, hr⟩ : ∃ r, (oneF l k).2 = r := ⟨_, rfl⟩
      rw [hr, hr1] at HQ
      have HRR := hide hr
      have HR1 := hide hr1
      clear hr hr1
      by_cases hr0 : r = 0
      · have dr : (r != 0) = false := by simp [hr0]
        have Hr0 := hide hr0
        clear hr0
        go_wp2_with fail
        refine HQ.out.mono ?_
        rintro e w3 ⟨rfl, hb3⟩
        go_wp2_with fail
        go_roundw
        case rel =>
          refine ⟨k + 1, by omega, by simp, fun j hj => ?_, bel_trans HBB.out hb3⟩
          rcases Nat.lt_or_ge j k with h | h
          · exact HALL.out j h
          · obtain rfl : j = k := by omega
            rw [HRR.out, Hr0.out]
        case measure => simp [intOf]; omega
      · have dr : (r != 0) = true := by simp [hr0]
        have Hr0 := hide hr0
        clear hr0
        go_wp2_with fail
        refine HQ.out.mono ?_
        rintro e w3 ⟨rfl, hb3⟩
        go_wp2_with fail
        go_ret3
        have e := HR.out
        rw [seekE_of_some (Nat.zero_le k) (by omega) (by rw [HRR.out]; exact Hr0.out) (fun j _ hj => HALL.out j hj)] at e
        simp only [HRR.out, HR1.out] at e
        exact ⟨by rw [← e]; rfl, bel_trans HBB.out hb3⟩
    · obtain rfl : k = n := by omega
      have HR2 := hide HR.out
      rw [seekE_of_none (fun j _ hj => HALL.out j (by omega))] at HR2
      clear HALL HR hkn
      go_wp2_with fail
      go_loopw [31] (fun x wr => ∃ (i : Nat), i ≤ k ∧ x = .int .i64 i ∧ (∀ j, j < i → badHold l (l.getD j zT) = none) ∧ Below w.heap.size w wr) (fun x _ => k - (intOf x).toNat)
      case atStart => exact ⟨0, Nat.zero_le _, rfl, fun j hj => by omega, HBB.out⟩
      case round =>
        clear HBB
        obtain ⟨i, hi, rfl, hall, hB⟩ := hrel
        have HALL := hide hall
        have HBB := hide hB
        clear hall
        by_cases hik : i < k
        · have hi1 : (i : Int) < k := by omega
          have hi0 : (0 : Int) ≤ i := by omega
          obtain ⟨t, ht⟩ : ∃ x, l[i]? = some x := ⟨_, List.getElem?_eq_getElem (by rw [HL.out]; exact hik)⟩
          have hg : l.getD i zT = t := by rw [List.getD_eq_getElem?_getD, ht]; rfl
          have hfn := (okTp_nm (by have := okTp_get HOK.out i (by rw [HL.out]; exact hik); rwa [hg] at this)).2.1
          obtain ⟨cb, off, A2, c2, rfl, e0, e1, e2, hl2, hF⟩ := tp_at HC.out hB ht
          have HG := hide hg
          have HF := hide hF
          obtain ⟨N, hN⟩ : ∃ N, t.fs.length = N := ⟨_, rfl⟩
          rw [hN] at e2 hl2 HF hfn
          have HN := hide hN
          have HL2 := hide hl2
          clear hg hF hN hB ht hl2
          go_wp2_with fail
          go_loopw [39] (fun x wr => ∃ (j : Nat), j ≤ N ∧ x = .int .i64 j ∧ (∀ m, m < j → holdsF l (t.fs.getD m zF) = true) ∧ Below w.heap.size w wr) (fun x _ => N - (intOf x).toNat)
          case atStart => exact ⟨0, Nat.zero_le _, rfl, fun j hj => by omega, bel_trans HBB.out (below_box _ _)⟩
          case round =>
            clear HBB e0 e1 e2
            obtain ⟨j, hj, rfl, hallj, hB⟩ := hrel
            have HAJ := hide hallj
            have HBB := hide hB
            clear hallj
            by_cases hjN : j < N
            · have hj1 : (j : Int) < N := by omega
              have hj0 : (0 : Int) ≤ j := by omega
              obtain ⟨f, hf⟩ : ∃ x, t.fs[j]? = some x := ⟨_, List.getElem?_eq_getElem (by rw [HN.out]; exact hjN)⟩
              have hgf : t.fs.getD j zF = f := by rw [List.getD_eq_getElem?_getD, hf]; rfl
              obtain ⟨fb, fo, rfl, f0, f1, f2, f3, f4⟩ := fl_at HF.out hB hf
              have HGF := hide hgf
              have HQ := hide (HHO.out _ (bel_trans HBB.out (below_box _ (.cells #[.string f.nm, .int .u8 f.kd, .int .i64 f.at_, .int .i64 f.of, .int .i64 f.node] 46))) f)
              unfold Fl.val at HQ
              obtain ⟨r, hr⟩ : ∃ r, holdsF l f = r := ⟨_, rfl⟩
              rw [hr] at HQ
              have HRR := hide hr
              clear hr hgf hf hB
              cases r with
              | true =>
                go_wp2_with fail
                refine HQ.out.mono ?_
                rintro e w3 ⟨rfl, hb3⟩
                go_wp2_with fail
                go_roundw
                case rel =>
                  refine ⟨j + 1, by omega, by simp, fun m hm => ?_, bel_trans (bel_trans HBB.out (below_box _ _)) hb3⟩
                  rcases Nat.lt_or_ge m j with h | h
                  · exact HAJ.out m h
                  · obtain rfl : m = j := by omega
                    rw [HGF.out, HRR.out]
                case measure => simp [intOf]; omega
              | false =>
                go_wp2_with fail
                refine HQ.out.mono ?_
                rintro e w3 ⟨rfl, hb3⟩
                go_wp2_with fail
                go_ret3
                have hbh : badHold l (l.getD i zT) = some j := by
                  unfold badHold
                  rw [HG.out, HN.out]
                  exact seekE_of_some (Nat.zero_le j) (by omega) (by rw [HGF.out, HRR.out]; decide) (fun m _ hm => by rw [HAJ.out m hm]; rfl)
                have e := HR2.out
                rw [seekE_of_some (Nat.zero_le i) (by omega) (by rw [hbh]; simp) (fun m _ hm => by rw [HALL.out m hm]; rfl)] at e
                simp only [hbh, Option.getD_some] at e
                exact ⟨by rw [← e]; rfl, bel_trans (bel_trans HBB.out (below_box _ _)) hb3⟩
            · obtain rfl : j = N := by omega
              have hbh : Hid (badHold l (l.getD i zT) = none) := by
                refine hide ?_
                unfold badHold
                rw [HG.out, HN.out]
                exact seekE_of_none (fun m _ hm => by rw [HAJ.out m (by omega)]; rfl)
              clear HAJ hjN hB
              go_wp2_with fail
              go_roundw
              case rel =>
                refine ⟨i + 1, by omega, by simp, fun m hm => ?_, HBB.out⟩
                rcases Nat.lt_or_ge m i with h | h
                · exact HALL.out m h
                · obtain rfl : m = i := by omega
                  exact hbh.out
              case measure => simp [intOf]; omega
        · obtain rfl : i = k := by omega
          have e := HR2.out
          rw [seekE_of_none (fun m _ hm => by rw [HALL.out m (by omega)]; rfl)] at e
          have HE := hide e
          clear e HALL HR2 hik hB
          go_wp2_with fail
          go_ret3
          exact ⟨by rw [← HE.out]; rfl, HBB.out⟩
end Go.Proofs.Ytkflofjcjolehaa

/-! Types: what follows of a table that may be; which bytes are plain. -/
namespace Go.Proofs.Ytkflofjcjolehaa
open Go.RowKit Go.Proofs.YtkflofjcjolehaaW.PrintWords
set_option linter.unusedSimpArgs false
set_option linter.unusedVariables false

/-- A field that may be, by those ahead of it. -/
structure FlOk (sz : Int) (fs : List Fl) (k : Nat) (f : Fl) : Prop where
  name : nameMay f.nm = true
  new : ∀ j g, j < k → fs[j]? = some g → ¬ g.nm.toList = f.nm.toList
  kind : 8 ≤ szK f.kd ∧ szK f.kd ≤ 16
  at0 : 0 ≤ f.at_ ∧ f.at_ % 8 = 0 ∧ f.at_ + szK f.kd ≤ sz
  apart : ∀ j g, j < k → fs[j]? = some g → flMeets g f.at_ (szK f.kd) = false
  once : f.kd = 7 ∨ f.kd = 6 → ∀ j g, j < k → fs[j]? = some g → ¬ g.kd = f.kd

theorem szK_cases (k : Int) : szK k = 0 ∨ (8 ≤ szK k ∧ szK k ≤ 16) := by
  unfold szK
  split
  · omega
  · split <;> omega

theorem any_take {α : Type} {p : α → Bool} {fs : List α} {k : Nat} (h : ¬ (fs.take k).any p = true) : ∀ j g, j < k → fs[j]? = some g → p g = false := by
  intro j g hj hg
  cases hp : p g with
  | false => rfl
  | true =>
    exfalso
    apply h
    rw [List.any_eq_true]
    exact ⟨g, List.mem_of_getElem? (show (fs.take k)[j]? = some g by rw [List.getElem?_take, if_pos hj]; exact hg), hp⟩

theorem fieldF_ok {sz : Int} {fs : List Fl} {k : Nat} {f : Fl} (hz : 0 ≤ sz ∧ sz ≤ 1000000) (hf : fs[k]? = some f) (h : fieldF sz fs k = 0) : FlOk sz fs k f := by
  have hg : fs.getD k zF = f := by rw [List.getD_eq_getElem?_getD, hf]; rfl
  unfold fieldF at h
  simp only [hg] at h
  have hs := szK_cases f.kd
  by_cases h1 : nameMay f.nm = false
  · rw [if_pos h1] at h; omega
  rw [if_neg h1] at h
  by_cases h2 : ((fs.take k).any fun g => g.nm.toList == f.nm.toList) = true
  · rw [if_pos h2] at h; omega
  rw [if_neg h2] at h
  by_cases h3 : szK f.kd = 0
  · rw [if_pos h3] at h; omega
  rw [if_neg h3] at h
  by_cases h4 : f.at_ < 0 ∨ Int.tmod f.at_ 8 ≠ 0 ∨ f.at_ > sz ∨ szK f.kd > wrap64 (sz - f.at_)
  · rw [if_pos h4] at h; omega
  rw [if_neg h4] at h
  by_cases h5 : ((fs.take k).any fun g => flMeets g f.at_ (szK f.kd)) = true
  · rw [if_pos h5] at h; omega
  rw [if_neg h5] at h
  by_cases h6 : (f.kd = 7 ∨ f.kd = 6) ∧ ((fs.take k).any fun g => g.kd == f.kd) = true
  · rw [if_pos h6] at h; omega
  have a0 : 0 ≤ f.at_ := by omega
  have a1 : f.at_ ≤ sz := by omega
  have w : wrap64 (sz - f.at_) = sz - f.at_ := by unfold wrap64; omega
  rw [w] at h4
  have a2 : f.at_ % 8 = 0 := by
    have := Int.tmod_eq_emod_of_nonneg a0 (b := 8)
    omega
  refine ⟨by cases hn : nameMay f.nm <;> simp_all, fun j g hj hgj => ?_, by omega, by omega, any_take h5, fun ho j g hj hgj => ?_⟩
  · have := any_take h2 j g hj hgj
    simpa using this
  · have h7 : ¬ ((fs.take k).any fun g => g.kd == f.kd) = true := fun e => h6 ⟨ho, e⟩
    have := any_take h7 j g hj hgj
    simpa using this

/-- A type that may be, by those ahead of it. -/
structure TpOk (l : List Tp) (i : Nat) (t : Tp) : Prop where
  num : i < 32
  name : nameMay t.nm = true
  first : (i : Int) ≤ max (ofIdx l t.nm) 0
  size : 8 ≤ t.sz ∧ t.sz ≤ 128
  few : t.fs.length ≤ 8
  fields : ∀ k f, t.fs[k]? = some f → FlOk t.sz t.fs k f
  one : ¬ (objK t.fs = false ∧ valK t.fs = false)
  lock : hasK t.fs [2, 4] = true → hasK t.fs [7] = true

theorem oneF_ok {l : List Tp} {i : Nat} {t : Tp} (ht : l[i]? = some t) (h : (oneF l i).2 = 0) : TpOk l i t := by
  have hg : l.getD i zT = t := by rw [List.getD_eq_getElem?_getD, ht]; rfl
  unfold oneF oneT at h
  rw [hg] at h
  by_cases h1 : i ≥ 32
  · rw [if_pos h1] at h; simp at h
  rw [if_neg h1] at h
  by_cases h2 : nameMay t.nm = false
  · rw [if_pos h2] at h; simp at h
  rw [if_neg h2] at h
  by_cases h3 : max (ofIdx l t.nm) 0 < (i : Int)
  · rw [if_pos h3] at h; simp at h
  rw [if_neg h3] at h
  by_cases h4 : Int.tmod t.sz 8 ≠ 0 ∨ t.sz < 8 ∨ t.sz > 128
  · rw [if_pos h4] at h; simp at h
  rw [if_neg h4] at h
  by_cases h5 : t.fs.length > 8
  · rw [if_pos h5] at h; simp at h
  rw [if_neg h5] at h
  cases hs : seekE (fieldF t.sz t.fs) t.fs.length 0 with
  | some k =>
    rw [hs] at h
    exact absurd h (seekE_some hs).2.2.1
  | none =>
    rw [hs] at h
    have hm : ¬ ((objK t.fs = false ∧ valK t.fs = false) ∨ (hasK t.fs [2, 4] = true ∧ hasK t.fs [7] = false)) := by
      intro e
      unfold mixF at h
      simp only [if_pos e] at h
      omega
    refine ⟨by omega, by cases hn : nameMay t.nm <;> simp_all, by omega, by omega, by omega, fun k f hf => fieldF_ok (by omega) hf (seekE_none hs k (by omega) (by have := (List.getElem?_eq_some_iff.1 hf).1; omega)), fun e => hm (.inl e), fun e => ?_⟩
    cases h7 : hasK t.fs [7] with
    | true => rfl
    | false => exact absurd (.inr ⟨e, h7⟩) hm

theorem checkF_ok {l : List Tp} (h : (checkF l).2.2 = 0) : ∀ i t, l[i]? = some t → TpOk l i t ∧ badHold l t = none := by
  intro i t ht
  have hi := (List.getElem?_eq_some_iff.1 ht).1
  have hg : l.getD i zT = t := by rw [List.getD_eq_getElem?_getD, ht]; rfl
  unfold checkF at h
  cases hs : seekE (fun i => (oneF l i).2) l.length 0 with
  | some k =>
    rw [hs] at h
    exact absurd h (seekE_some hs).2.2.1
  | none =>
    rw [hs] at h
    refine ⟨oneF_ok ht (seekE_none hs i (by omega) (by omega)), ?_⟩
    cases hb : seekE (fun i => if badHold l (l.getD i zT) = none then 0 else 1) l.length 0 with
    | some k => simp only [hb] at h; omega
    | none =>
      have := seekE_none hb i (by omega) (by omega)
      rw [hg] at this
      by_cases e : badHold l t = none
      · exact e
      · rw [if_neg e] at this; omega

/-- Which bytes are plain, where no number is great. -/
theorem plain_iff {sz : Int} {fs : List Fl} {x n : Int} (hz : 0 ≤ sz ∧ sz ≤ 1000000) (hx : -1000000 ≤ x ∧ x ≤ 1000000) (hn : -1000000 ≤ n ∧ n ≤ 1000000) (hf : ∀ f ∈ fs, -1000000 ≤ f.at_ ∧ f.at_ ≤ 1000000) :
    plainF sz fs x n = true ↔ 1 ≤ n ∧ 0 ≤ x ∧ n ≤ sz - x ∧ ∀ f ∈ fs, 0 < szK f.kd → ¬ (f.at_ < x + n ∧ x < f.at_ + szK f.kd) := by
  unfold plainF
  have w1 : wrap64 (sz - x) = sz - x := by unfold wrap64; omega
  by_cases h1 : n < 1
  · rw [if_pos h1]; simp; omega
  rw [if_neg h1]
  by_cases h2 : x < 0
  · rw [if_pos h2]; simp; omega
  rw [if_neg h2]
  by_cases h3 : x > sz
  · rw [if_pos h3]; simp; omega
  rw [if_neg h3, w1]
  by_cases h4 : n > sz - x
  · rw [if_pos h4]; simp; omega
  rw [if_neg h4]
  have e : ∀ f ∈ fs, flMeets f x n = decide (f.at_ < x + n ∧ x < f.at_ + szK f.kd) := by
    intro f hm
    have := hf f hm
    have := szK_cases f.kd
    unfold flMeets
    rw [w64, w64, show wrap64 (x + n) = x + n by unfold wrap64; omega, show wrap64 (f.at_ + szK f.kd) = f.at_ + szK f.kd by unfold wrap64; omega, Bool.decide_and]
  rw [Bool.not_eq_true', List.any_eq_false]
  constructor
  · intro h
    refine ⟨by omega, by omega, by omega, fun f hm hs hc => ?_⟩
    have := h f hm
    rw [e f hm, decide_eq_true hc, decide_eq_true (show szK f.kd > 0 from hs)] at this
    simp at this
  · rintro ⟨_, _, _, h⟩ f hm
    rw [e f hm]
    simp only [Bool.and_eq_true, decide_eq_true_eq]
    exact fun hc => h f hm hc.1 hc.2
/-- A type of a table that may be: its fields stand apart. -/
theorem small_at {l : List Tp} {i : Nat} {t : Tp} (h : TpOk l i t) : ∀ f ∈ t.fs, 0 ≤ f.at_ ∧ f.at_ + szK f.kd ≤ t.sz ∧ 8 ≤ szK f.kd ∧ szK f.kd ≤ 16 := by
  intro f hf
  obtain ⟨k, hk⟩ := List.getElem?_of_mem hf
  have := h.fields k f hk
  exact ⟨this.at0.1, this.at0.2.2, this.kind⟩
theorem small_in {l : List Tp} {i : Nat} {t : Tp} (h : TpOk l i t) : ∀ f ∈ t.fs, -1000000 ≤ f.at_ ∧ f.at_ ≤ 1000000 := fun f hf => by
  have := small_at h f hf
  have := h.size
  omega

theorem plains_all {l : List Tp} {i : Nat} {t : Tp} (h : TpOk l i t) {x : Int} (hx : 0 ≤ x ∧ x ≤ 255) {q : Nat} (hq : 1 ≤ q ∧ q ≤ 32) : plainF t.sz t.fs x q = true ↔ ∀ m : Nat, m < q → plainF t.sz t.fs (x + m) 1 = true := by
  have hsz := h.size
  have hb := small_in h
  rw [plain_iff (by omega) (by omega) (by omega) hb]
  constructor
  · rintro ⟨a1, a2, a3, a4⟩ m hm
    rw [plain_iff (by omega) (by omega) (by omega) hb]
    exact ⟨by omega, by omega, by omega, fun f hf hs hc => a4 f hf hs (by omega)⟩
  · intro ha
    have l1 := (plain_iff (by omega) (by omega) (by omega) hb).1 (ha (q - 1) (by omega))
    refine ⟨by omega, by omega, by omega, fun f hf hs hc => ?_⟩
    rcases Int.lt_or_le x f.at_ with h1 | h1
    · have l2 := (plain_iff (by omega) (by omega) (by omega) hb).1 (ha (f.at_ - x).toNat (by omega))
      exact l2.2.2.2 f hf hs (by omega)
    · have l2 := (plain_iff (by omega) (by omega) (by omega) hb).1 (ha 0 (by omega))
      exact l2.2.2.2 f hf hs (by omega)

theorem plains_in {l : List Tp} {i : Nat} {t : Tp} (h : TpOk l i t) {f : Fl} (hf : f ∈ t.fs) {y : Int} (h1 : f.at_ ≤ y) (h2 : y < f.at_ + szK f.kd) : plainF t.sz t.fs y 1 = false := by
  have hsz := h.size
  have hb := small_in h
  have hs := small_at h f hf
  cases hp : plainF t.sz t.fs y 1 with
  | false => rfl
  | true =>
    have := (plain_iff (by omega) (by omega) (by omega) hb).1 hp
    exact absurd ⟨show f.at_ < y + 1 by omega, h2⟩ (this.2.2.2 f hf (by omega))
end Go.Proofs.Ytkflofjcjolehaa

/-! Types: loops that look for a first place, as the print has them. -/
namespace Go.Proofs.Ytkflofjcjolehaa
open Go.RowKit Go.Proofs.YtkflofjcjolehaaW.PrintWords

theorem scan {β : Type} (L : Nat → Nat → Option β) (n : Nat) (g : Nat → Int) (r : Nat → β) (x : β) (hit : ∀ i, i < n → g i ≠ 0 → Ev (fun k => L k i) (r i)) (skip : ∀ i, i < n → g i = 0 → ∀ y, Ev (fun k => L k (i + 1)) y → Ev (fun k => L k i) y)
    (hend : Ev (fun k => L k n) x) : ∀ d i, n - i = d → i ≤ n → Ev (fun k => L k i) (match seekE g d i with | some j => r j | none => x) := by
  intro d
  induction d with
  | zero =>
    intro i hd hi
    obtain rfl : i = n := by omega
    exact hend
  | succ d ih =>
    intro i hd hi
    have := ih (i + 1) (by omega) (by omega)
    unfold seekE
    by_cases h : g i = 0
    · simp only [if_pos h]
      exact skip i (by omega) h _ this
    · simp only [if_neg h]
      exact hit i (by omega) h

theorem scan_hit {β : Type} (L : Nat → Nat → Option β) (n : Nat) (g : Nat → Int) (r : Nat → β) (hit : ∀ i, i < n → g i ≠ 0 → Ev (fun k => L k i) (r i)) (skip : ∀ i, i < n → g i = 0 → ∀ y, Ev (fun k => L k (i + 1)) y → Ev (fun k => L k i) y) :
    ∀ d i j, n - i = d → i ≤ n → seekE g d i = some j → Ev (fun k => L k i) (r j) := by
  intro d
  induction d with
  | zero => intro i j _ _ h; cases h
  | succ d ih =>
    intro i j hd hi hs
    unfold seekE at hs
    by_cases h : g i = 0
    · rw [if_pos h] at hs
      exact skip i (by omega) h _ (ih (i + 1) j (by omega) (by omega) hs)
    · rw [if_neg h] at hs
      obtain rfl := Option.some.inj hs
      exact hit i (by omega) h

def tst (b : Bool) : Int := if b = true then 1 else 0
theorem tst_ne {b : Bool} : tst b ≠ 0 ↔ b = true := by cases b <;> simp [tst]
theorem tst_eq {b : Bool} : tst b = 0 ↔ b = false := by cases b <;> simp [tst]

theorem seek_take {α : Type} (p : α → Bool) (l : List α) (z : α) (k : Nat) (hk : k ≤ l.length) : (l.take k).any p = (seekE (fun j => tst (p (l.getD j z))) k 0).isSome := by
  have hg : ∀ j, j < k → ∃ y, l[j]? = some y ∧ l.getD j z = y := fun j hj => ⟨_, List.getElem?_eq_getElem (by omega), by rw [List.getD_eq_getElem?_getD, List.getElem?_eq_getElem (by omega)]; rfl⟩
  cases hs : seekE (fun j => tst (p (l.getD j z))) k 0 with
  | none =>
    rw [Option.isSome_none, List.any_eq_false]
    intro y hy
    obtain ⟨j, hj⟩ := List.getElem?_of_mem hy
    rw [List.getElem?_take] at hj
    split at hj
    · rename_i hjk
      have := seekE_none hs j (by omega) (by omega)
      rw [tst_eq] at this
      obtain ⟨y', h1, h2⟩ := hg j hjk
      rw [h1] at hj
      obtain rfl := Option.some.inj hj
      rw [h2] at this
      rw [this]; simp
    · cases hj
  | some j =>
    obtain ⟨_, h1, h2, _⟩ := seekE_some hs
    rw [Nat.zero_add] at h1
    rw [tst_ne] at h2
    obtain ⟨y, h3, h4⟩ := hg j h1
    rw [h4] at h2
    rw [Option.isSome_some, List.any_eq_true]
    exact ⟨y, List.mem_of_getElem? (show (l.take k)[j]? = some y by rw [List.getElem?_take, if_pos h1]; exact h3), h2⟩
theorem seek_any {α : Type} (p : α → Bool) (l : List α) (z : α) : l.any p = (seekE (fun j => tst (p (l.getD j z))) l.length 0).isSome := by
  have := seek_take p l z l.length (Nat.le_refl _)
  rwa [List.take_length] at this

/-- A first place, as the program tells it, and as a search does. -/
theorem seek_idx {α : Type} (p : α → Bool) (l : List α) (z : α) : idxI p l = (match seekE (fun j => tst (p (l.getD j z))) l.length 0 with | some j => (j : Int) | none => -1) := by
  have hg : ∀ j, j < l.length → ∃ y, l[j]? = some y ∧ l.getD j z = y := fun j hj => ⟨_, List.getElem?_eq_getElem hj, by rw [List.getD_eq_getElem?_getD, List.getElem?_eq_getElem hj]; rfl⟩
  have hd : ∀ j y, l[j]? = some y → l.getD j z = y := fun j y h => by rw [List.getD_eq_getElem?_getD, h]; rfl
  cases hs : seekE (fun j => tst (p (l.getD j z))) l.length 0 with
  | none =>
    refine idxI_none (fun j y hy => ?_)
    have := seekE_none hs j (by omega) (by have := (List.getElem?_eq_some_iff.1 hy).1; omega)
    rwa [tst_eq, hd j y hy] at this
  | some j =>
    obtain ⟨_, h1, h2, h3⟩ := seekE_some hs
    rw [tst_ne] at h2
    obtain ⟨y, h4, h5⟩ := hg j (by omega)
    rw [h5] at h2
    refine idxI_some (fun m z' hm hz => ?_) h4 h2
    have := h3 m (by omega) hm
    rwa [tst_eq, hd m z' hz] at this
theorem hasK_244 (fs : List Fl) : hasK fs [2, 4, 4] = hasK fs [2, 4] := by
  unfold hasK
  congr 1
  funext f
  simp
end Go.Proofs.Ytkflofjcjolehaa
