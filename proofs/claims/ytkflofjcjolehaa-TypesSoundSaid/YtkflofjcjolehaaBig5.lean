/- Types: lemmas on what the functions that the laws reach answer. No conditions of their own beyond those that each theorem states. -/
import Derived.Test.YtkflofjcjolehaaBig4
import Derived.StillTailTactics
/-! Types: meets, and the closures of Of, At, Has, Plain, has, field. -/
namespace Go.Proofs.Ytkflofjcjolehaa
open Go.RowKit Go.Proofs.YtkflofjcjolehaaW.PrintWords
set_option maxHeartbeats 4000000
set_option maxRecDepth 100000
set_option linter.unusedSimpArgs false
set_option linter.unusedVariables false

theorem region_tail {P : Program} {id : Nat} {Q : Exit → Act → World → Prop} {a : Act} {w : World} {l : List Oper} (n : Nat) (hm : P.follows .mixedOrders = true) (hB : Region.lexTailB .any l.toArray n = true)
    (h : ∀ wd, wd = w.drew → wpStill P l.toArray wd (fun a' => wpList P l.toArray Q (l.drop n) a' wd) (l.take n) a) : (Code.region id l.toArray true).wp P Q a w :=
  wp_region_still_tail n hm hB (h _ rfl)

/-- Whether a field has one of so many bytes. -/
def flMeets (f : Fl) (at_ size : Int) : Bool := decide (f.at_ < IntKind.i64.wrap (at_ + size)) && decide (at_ < IntKind.i64.wrap (f.at_ + szK f.kd))

theorem ty_size_still (w : World) (k : Int) : Calls Try.prog 21 #[.int .u8 k] w fun e w' => e = .returned (.int .i64 (szK k)) ∧ w' = w :=
  (ty_size w k).mono fun e w' ⟨he, hw⟩ => ⟨he, hw.symm⟩

theorem ty_meets (w : World) (f : Fl) (x n : Int) : Calls Try.prog 48 #[f.val, .int .i64 x, .int .i64 n] w fun e w' => e = .returned (.bool (flMeets f x n)) ∧ Below w.heap.size w w' := by
  obtain ⟨nm, kd, pl, of, nd⟩ := f
  unfold Fl.val flMeets
  simp only []
  have HS := hide (fun w => ty_size_still w kd)
  obtain ⟨z, hz⟩ : ∃ z, szK kd = z := ⟨_, rfl⟩
  rw [hz] at HS ⊢
  clear hz
  cases h1 : decide (pl < IntKind.i64.wrap (x + n)) with
  | false =>
    go_enter Try.func48, Try.ntmps48
    go_wp2_with fail
    refine region_tail 15 (by kernel_rfl) (by kernel_rfl) ?_
    intro wd hwd
    have d0 : Has wd w.heap.size 46 #[.string nm, .int .u8 kd, .int .i64 pl, .int .i64 of, .int .i64 nd] := by
      rw [hwd]
      exact Has.new w _ _
    have HB : Hid (Below w.heap.size w wd) := by rw [hwd]; exact hide ((Below.refl _ _).alloc (Nat.le_refl _) _).drew
    clear hwd
    have c1 := d0.cell 1
    have c2 := d0.cell 2
    simp at c1 c2
    clear d0
    simp only [List.take_succ_cons, List.take_zero, List.drop_succ_cons, List.drop_zero]
    iterate 15 still_step
    refine wpStill_nil ?_
    go_wp2_with fail
    go_ret
    exact ⟨rfl, HB.out⟩
  | true =>
    go_enter Try.func48, Try.ntmps48
    go_wp2_with fail
    refine region_tail 15 (by kernel_rfl) (by kernel_rfl) ?_
    intro wd hwd
    have d0 : Has wd w.heap.size 46 #[.string nm, .int .u8 kd, .int .i64 pl, .int .i64 of, .int .i64 nd] := by
      rw [hwd]
      exact Has.new w _ _
    have HB : Hid (Below w.heap.size w wd) := by rw [hwd]; exact hide ((Below.refl _ _).alloc (Nat.le_refl _) _).drew
    clear hwd
    have c1 := d0.cell 1
    have c2 := d0.cell 2
    simp at c1 c2
    clear d0
    simp only [List.take_succ_cons, List.take_zero, List.drop_succ_cons, List.drop_zero]
    iterate 12 still_step
    still_call (HS.out _)
    iterate 2 still_step
    refine wpStill_nil ?_
    go_wp2_with fail
    go_ret
    exact ⟨by rw [Bool.true_and]; simp only [show ∀ x, IntKind.i64.wrap x = wrap64 x from fun x => by unfold wrap64; exact IntKind.wrap_i64 x]; rfl, HB.out⟩

end Go.Proofs.Ytkflofjcjolehaa

/-! Types: the closures of Of, At, Has, Plain, has, field; Of, At, Has, Plain, has. -/
namespace Go.Proofs.Ytkflofjcjolehaa
open Go.RowKit Go.Proofs.YtkflofjcjolehaaW.PrintWords
set_option maxHeartbeats 4000000
set_option maxRecDepth 100000
set_option linter.unusedSimpArgs false
set_option linter.unusedVariables false

theorem cell_on {w : World} {b i : Nat} {v : Value} (hc : w.cell? ⟨b, i, none⟩ = some v) (o : Obj) : (w.alloc o).cell? ⟨b, i, none⟩ = some v :=
  (World.cell?_alloc_lt w o ⟨b, i, none⟩ (World.block_lt_of_cell? w _ hc)).trans hc

theorem cell_bel {w w' : World} {b i : Nat} {v : Value} (hc : w.cell? ⟨b, i, none⟩ = some v) (h : Below w.heap.size w w') : w'.cell? ⟨b, i, none⟩ = some v :=
  (h.cell (p := ⟨b, i, none⟩) (World.block_lt_of_cell? w _ hc)).trans hc

theorem of_1 (w : World) (b : Nat) (s : ByteArray) (y : Tp) (A2 : Option Addr) (c2 : Nat) (hc : w.cell? ⟨b, 0, none⟩ = some (.string s)) :
    Calls Try.prog 51 #[.agg #[.string y.nm, .int .i64 y.sz, .slice A2 y.fs.length c2], .pointer (some ⟨b, 0, none⟩)] w fun e w' => e = .returned (.bool (y.nm.toList == s.toList)) ∧ Below w.heap.size w w' := by
  have hc' := cell_on hc (.cells #[.string y.nm, .int .i64 y.sz, .slice A2 y.fs.length c2] 44)
  go_enter Try.func51, Try.ntmps51
  go_wp2_with fail
  go_ret
  exact ⟨rfl, (Below.refl _ w).alloc (Nat.le_refl _) _⟩

theorem at_1 (w : World) (b : Nat) (x : Int) (y : Fl) (hc : w.cell? ⟨b, 0, none⟩ = some (.int .i64 x)) :
    Calls Try.prog 56 #[y.val, .pointer (some ⟨b, 0, none⟩)] w fun e w' => e = .returned (.bool (y.at_ == x)) ∧ Below w.heap.size w w' := by
  have hc' := cell_on hc (.cells #[.string y.nm, .int .u8 y.kd, .int .i64 y.at_, .int .i64 y.of, .int .i64 y.node] 46)
  unfold Fl.val
  go_enter Try.func56, Try.ntmps56
  go_wp2_with fail
  go_ret
  exact ⟨rfl, (Below.refl _ w).alloc (Nat.le_refl _) _⟩

theorem has_1 (w : World) (b : Nat) (x : Int) (y : Fl) (hc : w.cell? ⟨b, 0, none⟩ = some (.int .u8 x)) :
    Calls Try.prog 58 #[y.val, .pointer (some ⟨b, 0, none⟩)] w fun e w' => e = .returned (.bool (y.kd == x)) ∧ Below w.heap.size w w' := by
  have hc' := cell_on hc (.cells #[.string y.nm, .int .u8 y.kd, .int .i64 y.at_, .int .i64 y.of, .int .i64 y.node] 46)
  unfold Fl.val
  go_enter Try.func58, Try.ntmps58
  go_wp2_with fail
  go_ret
  exact ⟨rfl, (Below.refl _ w).alloc (Nat.le_refl _) _⟩

theorem has_k (w : World) (b : Nat) (A : Option Addr) (c : Nat) (ks : List Int) (n : Nat) (hl : ks.length = n) (hC : (Kd.int .u8).C w A n ks) (y : Fl) (hc : w.cell? ⟨b, 0, none⟩ = some (.slice A n c)) :
    Calls Try.prog 75 #[y.val, .pointer (some ⟨b, 0, none⟩)] w fun e w' => e = .returned (.bool (ks.any fun k => y.kd == k)) ∧ Below w.heap.size w w' := by
  have hc' := cell_on hc (.cells #[.string y.nm, .int .u8 y.kd, .int .i64 y.at_, .int .i64 y.of, .int .i64 y.node] 46)
  have hC' := hide (Kd.C_below hC ((Below.refl _ w).alloc (Nat.le_refl _) (.cells #[.string y.nm, .int .u8 y.kd, .int .i64 y.at_, .int .i64 y.of, .int .i64 y.node] 46)))
  clear hC
  have HL := hide hl
  clear hl
  unfold Fl.val
  go_enter Try.func75, Try.ntmps75
  go_wp2_with fail
  refine (u8_contains _ A c ks n y.kd HL.out hC'.out).mono ?_
  rintro e w1 ⟨rfl, hb1⟩
  go_wp2_with fail
  go_ret
  exact ⟨rfl, ((Below.refl _ w).alloc (Nat.le_refl _) _).trans (hb1.mono (by simp))⟩

theorem plain_1 (w : World) (b d : Nat) (x n : Int) (y : Fl) (hc : w.cell? ⟨b, 0, none⟩ = some (.int .i64 x)) (hd : w.cell? ⟨d, 0, none⟩ = some (.int .i64 n)) :
    Calls Try.prog 47 #[y.val, .pointer (some ⟨b, 0, none⟩), .pointer (some ⟨d, 0, none⟩)] w fun e w' => e = .returned (.bool (decide (szK y.kd > 0) && flMeets y x n)) ∧ Below w.heap.size w w' := by
  have hc' := cell_on hc (.cells #[.string y.nm, .int .u8 y.kd, .int .i64 y.at_, .int .i64 y.of, .int .i64 y.node] 46)
  have hd' := cell_on hd (.cells #[.string y.nm, .int .u8 y.kd, .int .i64 y.at_, .int .i64 y.of, .int .i64 y.node] 46)
  have hm := hide (fun w => ty_meets w y x n)
  unfold Fl.val at hm ⊢
  have hs := hide (fun w => ty_size w y.kd)
  obtain ⟨z, hz⟩ : ∃ z, szK y.kd = z := ⟨_, rfl⟩
  obtain ⟨m, hme⟩ : ∃ m, flMeets y x n = m := ⟨_, rfl⟩
  rw [hz] at hs ⊢
  rw [hme] at hm ⊢
  clear hz hme
  cases h : decide (z > 0) with
  | true =>
    have h' : decide (0 < z) = true := h
    clear h
    go_enter Try.func47, Try.ntmps47
    go_wp2_with fail
    refine (hs.out _).mono ?_
    rintro e w1 ⟨rfl, rfl⟩
    go_wp2_with fail
    refine (hm.out _).mono ?_
    rintro e w2 ⟨rfl, hb2⟩
    go_wp2_with fail
    go_ret
    exact ⟨by rw [Bool.true_and]; rfl, ((Below.refl _ w).alloc (Nat.le_refl _) _).trans (hb2.mono (by simp))⟩
  | false =>
    have h' : decide (0 < z) = false := h
    clear h
    go_enter Try.func47, Try.ntmps47
    go_wp2_with fail
    refine (hs.out _).mono ?_
    rintro e w1 ⟨rfl, rfl⟩
    go_wp2_with fail
    go_ret
    exact ⟨by rw [Bool.false_and]; rfl, (Below.refl _ w).alloc (Nat.le_refl _) _⟩

theorem field_1 (w : World) (b : Nat) (f y : Fl) (hc : w.cell? ⟨b, 1, none⟩ = some (.int .u8 f.kd)) :
    Calls Try.prog 81 #[y.val, .pointer (some ⟨b, 0, none⟩)] w fun e w' => e = .returned (.bool (y.kd == f.kd)) ∧ Below w.heap.size w w' := by
  have hc' := cell_on hc (.cells #[.string y.nm, .int .u8 y.kd, .int .i64 y.at_, .int .i64 y.of, .int .i64 y.node] 46)
  unfold Fl.val
  go_enter Try.func81, Try.ntmps81
  go_wp2_with fail
  go_ret
  exact ⟨rfl, (Below.refl _ w).alloc (Nat.le_refl _) _⟩

theorem field_2 (w : World) (b : Nat) (f y : Fl) (hc : w.cell? ⟨b, 0, none⟩ = some (.string f.nm)) :
    Calls Try.prog 82 #[y.val, .pointer (some ⟨b, 0, none⟩)] w fun e w' => e = .returned (.bool (y.nm.toList == f.nm.toList)) ∧ Below w.heap.size w w' := by
  have hc' := cell_on hc (.cells #[.string y.nm, .int .u8 y.kd, .int .i64 y.at_, .int .i64 y.of, .int .i64 y.node] 46)
  unfold Fl.val
  go_enter Try.func82, Try.ntmps82
  go_wp2_with fail
  go_ret
  exact ⟨rfl, (Below.refl _ w).alloc (Nat.le_refl _) _⟩

theorem field_3 (w : World) (b d : Nat) (f y : Fl) (n : Int) (hc : w.cell? ⟨b, 2, none⟩ = some (.int .i64 f.at_)) (hd : w.cell? ⟨d, 0, none⟩ = some (.int .i64 n)) :
    Calls Try.prog 83 #[y.val, .pointer (some ⟨b, 0, none⟩), .pointer (some ⟨d, 0, none⟩)] w fun e w' => e = .returned (.bool (flMeets y f.at_ n)) ∧ Below w.heap.size w w' := by
  have hc' := cell_on hc (.cells #[.string y.nm, .int .u8 y.kd, .int .i64 y.at_, .int .i64 y.of, .int .i64 y.node] 46)
  have hd' := cell_on hd (.cells #[.string y.nm, .int .u8 y.kd, .int .i64 y.at_, .int .i64 y.of, .int .i64 y.node] 46)
  have hm := hide (fun w => ty_meets w y f.at_ n)
  unfold Fl.val at hm ⊢
  go_enter Try.func83, Try.ntmps83
  go_wp2_with fail
  refine (hm.out _).mono ?_
  rintro e w2 ⟨rfl, hb2⟩
  go_wp2_with fail
  go_ret
  exact ⟨rfl, ((Below.refl _ w).alloc (Nat.le_refl _) _).trans (hb2.mono (by simp))⟩
end Go.Proofs.Ytkflofjcjolehaa

/-! Types: Of, At, Has, Plain, has, small. -/
namespace Go.Proofs.Ytkflofjcjolehaa
open Go.RowKit Go.Proofs.YtkflofjcjolehaaW.PrintWords
set_option maxHeartbeats 4000000
set_option maxRecDepth 100000
set_option linter.unusedSimpArgs false
set_option linter.unusedVariables false

theorem below_box (w : World) (o : Obj) : Below w.heap.size w (w.alloc o) := (Below.refl _ w).alloc (Nat.le_refl _) o
theorem bel_trans {w w1 w2 : World} (h1 : Below w.heap.size w w1) (h2 : Below w1.heap.size w1 w2) : Below w.heap.size w w2 := h1.trans (h2.mono h1.size)
theorem new_cell (w : World) (cs : Array Value) (t : TypeId) (i : Nat) (v : Value) (h : cs[i]? = some v) : (w.alloc (.cells cs t)).cell? ⟨w.heap.size, i, none⟩ = some v := ((Has.new w t cs).cell i).trans h

def ofIdx (l : List Tp) (nm : ByteArray) : Int := idxI (fun t => t.nm.toList == nm.toList) l
def atIdx (l : List Fl) (x : Int) : Int := idxI (fun f => f.at_ == x) l
def kdIdx (l : List Fl) (x : Int) : Int := idxI (fun f => f.kd == x) l
def hasK (l : List Fl) (ks : List Int) : Bool := l.any fun f => ks.any fun k => f.kd == k

theorem ty_of (w : World) (A : Option Addr) (c : Nat) (l : List Tp) (n : Nat) (hl : l.length = n) (hC : kT.C w A n l) (nm : ByteArray) :
    Calls Try.prog 22 #[.slice A n c, .string nm] w fun e w' => e = .returned (.tuple #[.int .i64 (max (ofIdx l nm) 0), .bool (decide (ofIdx l nm ≥ 0))]) ∧ Below w.heap.size w w' := by
  have hq := hide (tp_indexFunc 51 #[.pointer (some ⟨w.heap.size, 0, none⟩)] (fun args w => by rfl) (fun t => t.nm.toList == nm.toList) (w.alloc (.cells #[.string nm] 9)) A c l n hl (Kd.C_below hC (below_box w _))
    (fun j y A2 c2 wr hj hb _ _ => (of_1 wr w.heap.size nm y A2 c2 (cell_bel (new_cell w #[.string nm] _ 0 _ rfl) hb)).mono fun e w' ⟨he, hb'⟩ => ⟨he, bel_trans hb hb'⟩))
  obtain ⟨r, hr⟩ : ∃ r, ofIdx l nm = r := ⟨_, rfl⟩
  rw [hr]
  rw [show idxI (fun t : Tp => t.nm.toList == nm.toList) l = r from hr] at hq
  clear hr hC hl
  go_enter Try.func22, Try.ntmps22
  go_wp2_with fail
  refine hq.out.mono ?_
  rintro e w1 ⟨rfl, hb1⟩
  go_wp2_with fail
  refine (ty_found _ r).mono ?_
  rintro e w2 ⟨rfl, rfl⟩
  go_wp2_with fail
  go_ret2
  exact ⟨rfl, bel_trans (below_box w _) hb1⟩

theorem ty_at (w : World) (nm : ByteArray) (sz : Int) (A : Option Addr) (c : Nat) (l : List Fl) (n : Nat) (hl : l.length = n) (hC : kF.C w A n l) (x : Int) :
    Calls Try.prog 25 #[.agg #[.string nm, .int .i64 sz, .slice A n c], .int .i64 x] w fun e w' => e = .returned (.tuple #[.int .i64 (max (atIdx l x) 0), .bool (decide (atIdx l x ≥ 0))]) ∧ Below w.heap.size w w' := by
  have hB := (below_box w (.cells #[.string nm, .int .i64 sz, .slice A n c] 44))
  have hq := hide (fl_indexFunc 56 #[.pointer (some ⟨w.heap.size + 1, 0, none⟩)] (fun args w => by rfl) (fun f => f.at_ == x) ((w.alloc (.cells #[.string nm, .int .i64 sz, .slice A n c] 44)).alloc (.cells #[.int .i64 x] 3)) A c l n hl (Kd.C_below hC (bel_trans hB (below_box _ _)))
    (fun j y wr hj hb => (at_1 wr (w.heap.size + 1) x y (cell_bel (by have := new_cell (w.alloc (.cells #[.string nm, .int .i64 sz, .slice A n c] 44)) #[.int .i64 x] 3 0 _ rfl; rwa [World.size_alloc] at this) hb)).mono fun e w' ⟨he, hb'⟩ => ⟨he, bel_trans hb hb'⟩))
  have hB2 := hide (bel_trans hB (below_box _ (.cells #[.int .i64 x] 3)))
  obtain ⟨r, hr⟩ : ∃ r, atIdx l x = r := ⟨_, rfl⟩
  rw [hr]
  rw [show idxI (fun f : Fl => f.at_ == x) l = r from hr] at hq
  clear hr hC hl hB
  go_enter Try.func25, Try.ntmps25
  go_wp2_with fail
  refine hq.out.mono ?_
  rintro e w1 ⟨rfl, hb1⟩
  go_wp2_with fail
  refine (ty_found _ r).mono ?_
  rintro e w2 ⟨rfl, rfl⟩
  go_wp2_with fail
  go_ret2
  exact ⟨rfl, bel_trans hB2.out hb1⟩

theorem ty_has_kind (w : World) (nm : ByteArray) (sz : Int) (A : Option Addr) (c : Nat) (l : List Fl) (n : Nat) (hl : l.length = n) (hC : kF.C w A n l) (x : Int) :
    Calls Try.prog 27 #[.agg #[.string nm, .int .i64 sz, .slice A n c], .int .u8 x] w fun e w' => e = .returned (.tuple #[.int .i64 (max (kdIdx l x) 0), .bool (decide (kdIdx l x ≥ 0))]) ∧ Below w.heap.size w w' := by
  have hB := (below_box w (.cells #[.string nm, .int .i64 sz, .slice A n c] 44))
  have hq := hide (fl_indexFunc 58 #[.pointer (some ⟨w.heap.size + 1, 0, none⟩)] (fun args w => by rfl) (fun f => f.kd == x) ((w.alloc (.cells #[.string nm, .int .i64 sz, .slice A n c] 44)).alloc (.cells #[.int .u8 x] 5)) A c l n hl (Kd.C_below hC (bel_trans hB (below_box _ _)))
    (fun j y wr hj hb => (has_1 wr (w.heap.size + 1) x y (cell_bel (by have := new_cell (w.alloc (.cells #[.string nm, .int .i64 sz, .slice A n c] 44)) #[.int .u8 x] 5 0 _ rfl; rwa [World.size_alloc] at this) hb)).mono fun e w' ⟨he, hb'⟩ => ⟨he, bel_trans hb hb'⟩))
  have hB2 := hide (bel_trans hB (below_box _ (.cells #[.int .u8 x] 5)))
  obtain ⟨r, hr⟩ : ∃ r, kdIdx l x = r := ⟨_, rfl⟩
  rw [hr]
  rw [show idxI (fun f : Fl => f.kd == x) l = r from hr] at hq
  clear hr hC hl hB
  go_enter Try.func27, Try.ntmps27
  go_wp2_with fail
  refine hq.out.mono ?_
  rintro e w1 ⟨rfl, hb1⟩
  go_wp2_with fail
  refine (ty_found _ r).mono ?_
  rintro e w2 ⟨rfl, rfl⟩
  go_wp2_with fail
  go_ret2
  exact ⟨rfl, bel_trans hB2.out hb1⟩

theorem ty_has (w : World) (nm : ByteArray) (sz : Int) (A : Option Addr) (c : Nat) (l : List Fl) (n : Nat) (hl : l.length = n) (hC : kF.C w A n l) (A' : Option Addr) (c' : Nat) (ks : List Int) (n' : Nat) (hl' : ks.length = n') (hC' : (Kd.int .u8).C w A' n' ks) :
    Calls Try.prog 57 #[.agg #[.string nm, .int .i64 sz, .slice A n c], .slice A' n' c'] w fun e w' => e = .returned (.bool (hasK l ks)) ∧ Below w.heap.size w w' := by
  have hB := (below_box w (.cells #[.string nm, .int .i64 sz, .slice A n c] 44))
  have hB2 := hide (bel_trans hB (below_box _ (.cells #[.slice A' n' c'] 41)))
  have hq := hide (fl_containsFunc 75 #[.pointer (some ⟨w.heap.size + 1, 0, none⟩)] (fun args w => by rfl) (fun f => ks.any fun k => f.kd == k) ((w.alloc (.cells #[.string nm, .int .i64 sz, .slice A n c] 44)).alloc (.cells #[.slice A' n' c'] 41)) A c l n hl (Kd.C_below hC hB2.out)
    (fun j y wr hj hb => (has_k wr (w.heap.size + 1) A' c' ks n' hl' (Kd.C_below hC' (bel_trans hB2.out hb)) y (cell_bel (by have := new_cell (w.alloc (.cells #[.string nm, .int .i64 sz, .slice A n c] 44)) #[.slice A' n' c'] 41 0 _ rfl; rwa [World.size_alloc] at this) hb)).mono fun e w' ⟨he, hb'⟩ => ⟨he, bel_trans hb hb'⟩))
  obtain ⟨r, hr⟩ : ∃ r, hasK l ks = r := ⟨_, rfl⟩
  rw [hr]
  rw [show (l.any fun f => ks.any fun k => f.kd == k) = r from hr] at hq
  clear hr hC hl hB hC' hl'
  go_enter Try.func57, Try.ntmps57
  go_wp2_with fail
  refine hq.out.mono ?_
  rintro e w1 ⟨rfl, hb1⟩
  go_wp2_with fail
  go_ret
  exact ⟨rfl, bel_trans hB2.out hb1⟩
end Go.Proofs.Ytkflofjcjolehaa

/-! Types: Plain, Object, the closures of holds, holds. -/
namespace Go.Proofs.Ytkflofjcjolehaa
open Go.RowKit Go.Proofs.YtkflofjcjolehaaW.PrintWords
set_option maxHeartbeats 4000000
set_option maxRecDepth 100000
set_option linter.unusedSimpArgs false
set_option linter.unusedVariables false

theorem w64 (x : Int) : IntKind.i64.wrap x = wrap64 x := by unfold wrap64; exact IntKind.wrap_i64 x

/-- Whether bytes of a type are plain. -/
def plainF (sz : Int) (fs : List Fl) (x n : Int) : Bool :=
  if n < 1 then false else if x < 0 then false else if x > sz then false else if n > wrap64 (sz - x) then false else !(fs.any fun f => decide (szK f.kd > 0) && flMeets f x n)

theorem ty_plain (w : World) (nm : ByteArray) (sz : Int) (A : Option Addr) (c : Nat) (l : List Fl) (m : Nat) (hl : l.length = m) (hC : kF.C w A m l) (x n : Int) :
    Calls Try.prog 20 #[.agg #[.string nm, .int .i64 sz, .slice A m c], .int .i64 x, .int .i64 n] w fun e w' => e = .returned (.bool (plainF sz l x n)) ∧ Below w.heap.size w w' := by
  have hB := (below_box w (.cells #[.string nm, .int .i64 sz, .slice A m c] 44))
  have hB2 := bel_trans hB (below_box _ (.cells #[.int .i64 x] 3))
  have hB3 := hide (bel_trans hB2 (below_box _ (.cells #[.int .i64 n] 3)))
  have hq := hide (fl_containsFunc 47 #[.pointer (some ⟨w.heap.size + 1, 0, none⟩), .pointer (some ⟨w.heap.size + 1 + 1, 0, none⟩)] (fun args w => by rfl) (fun f => decide (szK f.kd > 0) && flMeets f x n)
    (((w.alloc (.cells #[.string nm, .int .i64 sz, .slice A m c] 44)).alloc (.cells #[.int .i64 x] 3)).alloc (.cells #[.int .i64 n] 3)) A c l m hl (Kd.C_below hC hB3.out)
    (fun j y wr hj hb => (plain_1 wr (w.heap.size + 1) (w.heap.size + 1 + 1) x n y
      (cell_bel (cell_on (by have := new_cell (w.alloc (.cells #[.string nm, .int .i64 sz, .slice A m c] 44)) #[.int .i64 x] 3 0 _ rfl; rwa [World.size_alloc] at this) _) hb)
      (cell_bel (by have := new_cell ((w.alloc (.cells #[.string nm, .int .i64 sz, .slice A m c] 44)).alloc (.cells #[.int .i64 x] 3)) #[.int .i64 n] 3 0 _ rfl; rwa [World.size_alloc, World.size_alloc] at this) hb)).mono fun e w' ⟨he, hb'⟩ => ⟨he, bel_trans hb hb'⟩))
  unfold plainF
  obtain ⟨r, hr⟩ : ∃ r, (l.any fun f => decide (szK f.kd > 0) && flMeets f x n) = r := ⟨_, rfl⟩
  rw [hr] at hq ⊢
  clear hr hC hl hB hB2
  by_cases h1 : n < 1
  · rw [if_pos h1]
    have d1 : decide (n < 1) = true := decide_eq_true h1
    clear h1
    go_enter Try.func20, Try.ntmps20
    go_wp2_with fail
    go_ret
    exact ⟨rfl, hB3.out⟩
  rw [if_neg h1]
  have d1 : decide (n < 1) = false := decide_eq_false h1
  by_cases h2 : x < 0
  · rw [if_pos h2]
    have d2 : decide (x < 0) = true := decide_eq_true h2
    clear h1 h2
    go_enter Try.func20, Try.ntmps20
    go_wp2_with fail
    go_ret
    exact ⟨rfl, hB3.out⟩
  rw [if_neg h2]
  have d2 : decide (x < 0) = false := decide_eq_false h2
  by_cases h3 : x > sz
  · rw [if_pos h3]
    have d3 : decide (sz < x) = true := decide_eq_true h3
    clear h1 h2 h3
    go_enter Try.func20, Try.ntmps20
    go_wp2_with fail
    go_ret
    exact ⟨rfl, hB3.out⟩
  rw [if_neg h3]
  have d3 : decide (sz < x) = false := decide_eq_false h3
  by_cases h4 : n > wrap64 (sz - x)
  · rw [if_pos h4]
    have d4 : decide (wrap64 (sz - x) < n) = true := decide_eq_true h4
    have d4' : decide (IntKind.i64.wrap (sz - x) < n) = true := by rw [w64]; exact d4
    clear h1 h2 h3 h4
    go_enter Try.func20, Try.ntmps20
    go_wp2_with fail
    go_ret
    exact ⟨rfl, hB3.out⟩
  rw [if_neg h4]
  have d4 : decide (wrap64 (sz - x) < n) = false := decide_eq_false h4
  have d4' : decide (IntKind.i64.wrap (sz - x) < n) = false := by rw [w64]; exact d4
  clear h1 h2 h3 h4
  go_enter Try.func20, Try.ntmps20
  go_wp2_with fail
  refine hq.out.mono ?_
  rintro e w1 ⟨rfl, hb1⟩
  go_wp2_with fail
  go_ret
  exact ⟨rfl, bel_trans hB3.out hb1⟩

def objK (fs : List Fl) : Bool := !(hasK fs [2, 4, 7])

theorem u8_lit (w : World) (l : List Int) (hn : l.length ≤ 9223372036854775807) : (Kd.int .u8).C (w.alloc (.cells (l.map (Value.int .u8)).toArray 5)) (some ⟨w.heap.size, 0, none⟩) l.length l := by
  refine ⟨rfl, hn, fun _ => ⟨_, rfl, fun j p hj => ⟨[.int .u8 p], rfl, rfl, fun i u hu => ?_⟩⟩⟩
  obtain ⟨rfl, rfl⟩ : i = 0 ∧ u = .int .u8 p := by
    cases i with
    | zero => exact ⟨rfl, by simpa using hu.symm⟩
    | succ i => simp at hu
  have h := (Has.new w 5 (l.map (Value.int .u8)).toArray).cell j
  rw [show (⟨w.heap.size, 0, none⟩ : Addr).add (j * (Kd.int .u8).sz + 0) = ⟨w.heap.size, j, none⟩ by rw [show (Kd.int .u8).sz = 1 from rfl, Nat.mul_one, Nat.add_zero]; exact add_plain _ _, h]
  simp [hj]

theorem ty_object (w : World) (nm : ByteArray) (sz : Int) (A : Option Addr) (c : Nat) (l : List Fl) (n : Nat) (hl : l.length = n) (hC : kF.C w A n l) :
    Calls Try.prog 26 #[.agg #[.string nm, .int .i64 sz, .slice A n c]] w fun e w' => e = .returned (.bool (objK l)) ∧ Below w.heap.size w w' := by
  have hB := (below_box w (.cells #[.string nm, .int .i64 sz, .slice A n c] 44))
  have hB2 := hide (bel_trans hB (below_box _ (.cells #[.int .u8 2, .int .u8 4, .int .u8 7] 5)))
  have hk := u8_lit (w.alloc (.cells #[.string nm, .int .i64 sz, .slice A n c] 44)) [2, 4, 7] (by decide)
  have hq := hide (ty_has _ nm sz A c l n hl (Kd.C_below hC hB2.out) _ 3 [2, 4, 7] 3 rfl hk)
  unfold objK
  obtain ⟨r, hr⟩ : ∃ r, hasK l [2, 4, 7] = r := ⟨_, rfl⟩
  rw [hr] at hq ⊢
  rw [World.size_alloc] at hq
  clear hr hC hl hB hk
  go_enter Try.func26, Try.ntmps26
  go_wp2_with fail
  refine hq.out.mono ?_
  rintro e w1 ⟨rfl, hb1⟩
  go_wp2_with fail
  go_ret
  exact ⟨rfl, bel_trans hB2.out hb1⟩

def objAt (l : List Tp) (o : Int) : Bool := decide (o ≥ 0) && (decide (o < l.length) && objK (l.getD o.toNat zT).fs)
def byAt (l : List Tp) (o node kind : Int) : Bool := decide (node ≥ 0) && (decide (node < (l.getD o.toNat zT).fs.length) && ((l.getD o.toNat zT).fs.getD node.toNat zF).kd == kind)
def holdsF (l : List Tp) (f : Fl) : Bool :=
  if f.kd = 1 then objAt l f.of && f.node == 0 else if f.kd = 2 then objAt l f.of && byAt l f.of f.node 3 else if f.kd = 4 then objAt l f.of && byAt l f.of f.node 5 else f.of == 0 && f.node == 0

theorem holds_1 (w : World) (b d : Nat) (A : Option Addr) (c : Nat) (l : List Tp) (n : Nat) (hl : l.length = n) (hC : kT.C w A n l) (o : Int) (hb3 : w.cell? ⟨b, 3, none⟩ = some (.int .i64 o)) (hd : w.cell? ⟨d, 0, none⟩ = some (.slice A n c)) :
    Calls Try.prog 66 #[.pointer (some ⟨b, 0, none⟩), .pointer (some ⟨d, 0, none⟩)] w fun e w' => e = .returned (.bool (objAt l o)) ∧ Below w.heap.size w w' := by
  unfold objAt
  by_cases h1 : o ≥ 0
  · have d1 : decide (0 ≤ o) = true := decide_eq_true h1
    rw [show decide (o ≥ 0) = true from d1, Bool.true_and, hl]
    by_cases h2 : o < n
    · have d2 : decide (o < n) = true := decide_eq_true h2
      rw [d2, Bool.true_and]
      obtain ⟨k, rfl⟩ : ∃ k : Nat, o = k := ⟨o.toNat, by omega⟩
      have hk : k < l.length := by omega
      obtain ⟨y, hy⟩ : ∃ x, l[k]? = some x := ⟨_, List.getElem?_eq_getElem hk⟩
      have hg : (l.getD (k : Int).toNat zT) = y := by rw [Int.toNat_natCast, List.getD_eq_getElem?_getD, hy]; rfl
      rw [hg]
      obtain ⟨cb, off, A2, c2, rfl, e0, e1, e2, hl2, hF⟩ := tp_at hC (Below.refl _ w) hy
      have hq := hide (ty_object w y.nm y.sz A2 c2 y.fs _ rfl hF)
      obtain ⟨r, hr⟩ : ∃ r, objK y.fs = r := ⟨_, rfl⟩
      rw [hr] at hq ⊢
      have h2' : (k : Int) < n := h2
      clear hr hC hl hg hy hF hk h2
      go_enter Try.func66, Try.ntmps66
      go_wp2_with fail
      refine hq.out.mono ?_
      rintro e w1 ⟨rfl, hb1⟩
      go_wp2_with fail
      go_ret
      exact ⟨rfl, hb1⟩
    · have d2 : decide (o < n) = false := decide_eq_false h2
      rw [d2, Bool.false_and]
      clear hC hl h2
      go_enter Try.func66, Try.ntmps66
      go_wp2_with fail
      go_ret
      exact ⟨rfl, Below.refl _ w⟩
  · have d1 : decide (0 ≤ o) = false := decide_eq_false h1
    rw [show decide (o ≥ 0) = false from d1, Bool.false_and]
    clear hC hl h1
    go_enter Try.func66, Try.ntmps66
    go_wp2_with fail
    go_ret
    exact ⟨rfl, Below.refl _ w⟩

theorem holds_2 (w : World) (b d : Nat) (A : Option Addr) (c : Nat) (l : List Tp) (n : Nat) (hl : l.length = n) (hC : kT.C w A n l) (o node kind : Int) (h0 : 0 ≤ o) (h1 : o < n)
    (hb3 : w.cell? ⟨b, 3, none⟩ = some (.int .i64 o)) (hb4 : w.cell? ⟨b, 4, none⟩ = some (.int .i64 node)) (hd : w.cell? ⟨d, 0, none⟩ = some (.slice A n c)) :
    Calls Try.prog 67 #[.int .u8 kind, .pointer (some ⟨b, 0, none⟩), .pointer (some ⟨d, 0, none⟩)] w fun e w' => e = .returned (.bool (byAt l o node kind)) ∧ Below w.heap.size w w' := by
  unfold byAt
  obtain ⟨k, rfl⟩ : ∃ k : Nat, o = k := ⟨o.toNat, by omega⟩
  have hk : k < l.length := by omega
  obtain ⟨y, hy⟩ : ∃ x, l[k]? = some x := ⟨_, List.getElem?_eq_getElem hk⟩
  have hg : (l.getD (k : Int).toNat zT) = y := by rw [Int.toNat_natCast, List.getD_eq_getElem?_getD, hy]; rfl
  rw [hg]
  obtain ⟨cb, off, A2, c2, rfl, e0, e1, e2, hl2, hF⟩ := tp_at hC (Below.refl _ w) hy
  by_cases h2 : node ≥ 0
  · have d2 : decide (0 ≤ node) = true := decide_eq_true h2
    rw [show decide (node ≥ 0) = true from d2, Bool.true_and]
    by_cases h3 : node < y.fs.length
    · have d3 : decide (node < (y.fs.length : Int)) = true := decide_eq_true h3
      rw [d3, Bool.true_and]
      obtain ⟨i, rfl⟩ : ∃ k : Nat, node = k := ⟨node.toNat, by omega⟩
      have hi : i < y.fs.length := by omega
      obtain ⟨z, hz⟩ : ∃ x, y.fs[i]? = some x := ⟨_, List.getElem?_eq_getElem hi⟩
      have hg2 : (y.fs.getD (i : Int).toNat zF) = z := by rw [Int.toNat_natCast, List.getD_eq_getElem?_getD, hz]; rfl
      rw [hg2]
      obtain ⟨cb2, off2, rfl, f0, f1, f2, f3, f4⟩ := fl_at hF (Below.refl _ w) hz
      obtain ⟨N, hN⟩ : ∃ N, y.fs.length = N := ⟨_, rfl⟩
      rw [hN] at e2 d3 h3
      clear hC hl hg hy hF hk hg2 hz hi hN hl2
      go_enter Try.func67, Try.ntmps67
      go_wp2_with fail
      go_quiet (fail)
      go_wp2_with fail
      go_ret
      exact ⟨rfl, Below.drewN_ (Below.refl _ w) _⟩
    · have d3 : decide (node < (y.fs.length : Int)) = false := decide_eq_false h3
      rw [d3, Bool.false_and]
      obtain ⟨N, hN⟩ : ∃ N, y.fs.length = N := ⟨_, rfl⟩
      rw [hN] at e2 d3 h3
      clear hC hl hg hy hF hk hN hl2 h3
      go_enter Try.func67, Try.ntmps67
      go_wp2_with fail
      go_quiet (fail)
      go_wp2_with fail
      go_ret
      exact ⟨rfl, Below.drewN_ (Below.refl _ w) _⟩
  · have d2 : decide (0 ≤ node) = false := decide_eq_false h2
    rw [show decide (node ≥ 0) = false from d2, Bool.false_and]
    clear hC hl hg hy hF hk hl2 h2
    go_enter Try.func67, Try.ntmps67
    go_wp2_with fail
    go_quiet (fail)
    go_wp2_with fail
    go_ret
    exact ⟨rfl, Below.drewN_ (Below.refl _ w) _⟩
end Go.Proofs.Ytkflofjcjolehaa

/-! Types: holds. -/
namespace Go.Proofs.Ytkflofjcjolehaa
open Go.RowKit Go.Proofs.YtkflofjcjolehaaW.PrintWords
set_option maxHeartbeats 4000000
set_option maxRecDepth 100000
set_option linter.unusedSimpArgs false
set_option linter.unusedVariables false

theorem objAt_range {l : List Tp} {o : Int} (h : objAt l o = true) : 0 ≤ o ∧ o < l.length := by
  unfold objAt at h
  rw [Bool.and_eq_true, Bool.and_eq_true, decide_eq_true_eq, decide_eq_true_eq] at h
  exact ⟨h.1, h.2.1⟩

theorem ty_holds (w : World) (A : Option Addr) (c : Nat) (l : List Tp) (n : Nat) (hl : l.length = n) (hC : kT.C w A n l) (f : Fl) :
    Calls Try.prog 43 #[.slice A n c, f.val] w fun e w' => e = .returned (.bool (holdsF l f)) ∧ Below w.heap.size w w' := by
  obtain ⟨nm, kd, pl, o, node⟩ := f
  unfold holdsF Fl.val
  simp only []
  have hB := (below_box w (.cells #[.slice A n c] 22))
  have hB2 := hide (bel_trans hB (below_box _ (.cells #[.string nm, .int .u8 kd, .int .i64 pl, .int .i64 o, .int .i64 node] 46)))
  have c0 := new_cell w #[.slice A n c] 22 0 _ rfl
  have d0 := cell_on c0 (.cells #[.string nm, .int .u8 kd, .int .i64 pl, .int .i64 o, .int .i64 node] 46)
  have hnew : ∀ i v, #[Value.string nm, .int .u8 kd, .int .i64 pl, .int .i64 o, .int .i64 node][i]? = some v → ((w.alloc (.cells #[.slice A n c] 22)).alloc (.cells #[.string nm, .int .u8 kd, .int .i64 pl, .int .i64 o, .int .i64 node] 46)).cell? ⟨w.heap.size + 1, i, none⟩ = some v := fun i v h => by
    have := new_cell (w.alloc (.cells #[.slice A n c] 22)) #[.string nm, .int .u8 kd, .int .i64 pl, .int .i64 o, .int .i64 node] 46 i v h
    rwa [World.size_alloc] at this
  have g3 := hnew 3 _ rfl
  have g4 := hnew 4 _ rfl
  have hq1 := hide (holds_1 _ (w.heap.size + 1) w.heap.size A c l n hl (Kd.C_below hC hB2.out) o g3 d0)
  have hq2 : Hid (objAt l o = true → ∀ (kind : Int) (W : World), Below ((w.alloc (.cells #[.slice A n c] 22)).alloc (.cells #[.string nm, .int .u8 kd, .int .i64 pl, .int .i64 o, .int .i64 node] 46)).heap.size ((w.alloc (.cells #[.slice A n c] 22)).alloc (.cells #[.string nm, .int .u8 kd, .int .i64 pl, .int .i64 o, .int .i64 node] 46)) W →
      Calls Try.prog 67 #[.int .u8 kind, .pointer (some ⟨w.heap.size + 1, 0, none⟩), .pointer (some ⟨w.heap.size, 0, none⟩)] W fun e w' => e = .returned (.bool (byAt l o node kind)) ∧ Below W.heap.size W w') := hide fun h kind W hW =>
    holds_2 W (w.heap.size + 1) w.heap.size A c l n hl (Kd.C_below hC (bel_trans hB2.out hW)) o node kind (objAt_range h).1 (by have := (objAt_range h).2; omega) (cell_bel g3 hW) (cell_bel g4 hW) (cell_bel d0 hW)
  clear hC hl hB c0 d0 hnew g3 g4
  generalize hob : objAt l o = ob at hq1 hq2 ⊢
  clear hob
  by_cases k1 : kd = 1
  · subst k1
    rw [if_pos rfl]
    cases ob with
    | false =>
      rw [Bool.false_and]
      clear hq2
      go_enter Try.func43, Try.ntmps43
      go_wp2_with fail
      refine hq1.out.mono ?_
      rintro e w1 ⟨rfl, hb1⟩
      go_wp2_with fail
      go_ret
      exact ⟨rfl, bel_trans hB2.out hb1⟩
    | true =>
      rw [Bool.true_and]
      have g4 := fun (w1 : World) (hb : Below ((w.alloc (.cells #[.slice A n c] 22)).alloc (.cells #[.string nm, .int .u8 1, .int .i64 pl, .int .i64 o, .int .i64 node] 46)).heap.size ((w.alloc (.cells #[.slice A n c] 22)).alloc (.cells #[.string nm, .int .u8 1, .int .i64 pl, .int .i64 o, .int .i64 node] 46)) w1) => (cell_bel (by have := new_cell (w.alloc (.cells #[.slice A n c] 22)) #[.string nm, .int .u8 1, .int .i64 pl, .int .i64 o, .int .i64 node] 46 4 _ rfl; rwa [World.size_alloc] at this) hb : w1.cell? ⟨w.heap.size + 1, 4, none⟩ = some (.int .i64 node))
      have G4 := hide g4
      clear hq2 g4
      go_enter Try.func43, Try.ntmps43
      go_wp2_with fail
      refine hq1.out.mono ?_
      rintro e w1 ⟨rfl, hb1⟩
      have g4' := G4.out w1 hb1
      go_wp2_with fail
      go_ret
      exact ⟨rfl, bel_trans hB2.out hb1⟩
  by_cases k2 : kd = 2
  · subst k2
    rw [if_neg (by decide), if_pos rfl]
    cases ob with
    | false =>
      rw [Bool.false_and]
      clear hq2
      go_enter Try.func43, Try.ntmps43
      go_wp2_with fail
      refine hq1.out.mono ?_
      rintro e w1 ⟨rfl, hb1⟩
      go_wp2_with fail
      go_ret
      exact ⟨rfl, bel_trans hB2.out hb1⟩
    | true =>
      rw [Bool.true_and]
      have hq3 := hide (hq2.out rfl 3)
      generalize byAt l o node 3 = by_ at hq3 ⊢
      clear hq2
      go_enter Try.func43, Try.ntmps43
      go_wp2_with fail
      refine hq1.out.mono ?_
      rintro e w1 ⟨rfl, hb1⟩
      go_wp2_with fail
      refine (hq3.out _ hb1).mono ?_
      rintro e w2 ⟨rfl, hb2⟩
      go_wp2_with fail
      go_ret
      exact ⟨rfl, bel_trans (bel_trans hB2.out hb1) hb2⟩
  by_cases k4 : kd = 4
  · subst k4
    rw [if_neg (by decide), if_neg (by decide), if_pos rfl]
    cases ob with
    | false =>
      rw [Bool.false_and]
      clear hq2
      go_enter Try.func43, Try.ntmps43
      go_wp2_with fail
      refine hq1.out.mono ?_
      rintro e w1 ⟨rfl, hb1⟩
      go_wp2_with fail
      go_ret
      exact ⟨rfl, bel_trans hB2.out hb1⟩
    | true =>
      rw [Bool.true_and]
      have hq3 := hide (hq2.out rfl 5)
      generalize byAt l o node 5 = by_ at hq3 ⊢
      clear hq2
      go_enter Try.func43, Try.ntmps43
      go_wp2_with fail
      refine hq1.out.mono ?_
      rintro e w1 ⟨rfl, hb1⟩
      go_wp2_with fail
      refine (hq3.out _ hb1).mono ?_
      rintro e w2 ⟨rfl, hb2⟩
      go_wp2_with fail
      go_ret
      exact ⟨rfl, bel_trans (bel_trans hB2.out hb1) hb2⟩
  rw [if_neg k1, if_neg k2, if_neg k4]
  have b1 : (kd == 1) = false := beq_eq_false_iff_ne.2 k1
  have b2 : (kd == 2) = false := beq_eq_false_iff_ne.2 k2
  have b4 : (kd == 4) = false := beq_eq_false_iff_ne.2 k4
  clear hq1 hq2 k1 k2 k4
  cases ho : (o == 0) with
  | true =>
    rw [Bool.true_and]
    go_enter Try.func43, Try.ntmps43
    go_wp2_with fail
    go_ret
    exact ⟨rfl, hB2.out⟩
  | false =>
    rw [Bool.false_and]
    go_enter Try.func43, Try.ntmps43
    go_wp2_with fail
    go_ret
    exact ⟨rfl, hB2.out⟩
end Go.Proofs.Ytkflofjcjolehaa
