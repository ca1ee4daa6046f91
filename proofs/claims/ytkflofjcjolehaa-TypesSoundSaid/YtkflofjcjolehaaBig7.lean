/- Types: lemmas on what the functions that the laws reach answer. No conditions of their own beyond those that each theorem states. -/
import Derived.Test.YtkflofjcjolehaaBig5
import Derived.Test.YtkflofjcjolehaaWEqStruct
import Derived.Test.YtkflofjcjolehaaBig6
/-! Types: small, put; Equal at fields, EqualFunc at types, Same. -/
namespace Go.Proofs.Ytkflofjcjolehaa
open Go.RowKit Go.Proofs.YtkflofjcjolehaaW.PrintWords
set_option maxHeartbeats 4000000
set_option maxRecDepth 100000
set_option linter.unusedSimpArgs false
set_option linter.unusedVariables false

/-- A number that has no room in a byte. -/
def noByte (n : Int) : Bool := decide (n < 0) || decide (n > 255)
def smallL (l : List Int) : Bool := !(l.any noByte)

theorem small_1 (w : World) (n : Int) : Calls Try.prog 60 #[.int .i64 n] w fun e w' => e = .returned (.bool (noByte n)) ∧ w = w' := by
  unfold noByte
  cases h : decide (n < 0) with
  | true =>
    go_enter Try.func60, Try.ntmps60
    go_wp2_with fail
    go_ret
    exact ⟨by rw [Bool.true_or]; rfl, rfl⟩
  | false =>
    go_enter Try.func60, Try.ntmps60
    go_wp2_with fail
    go_ret
    exact ⟨by rw [Bool.false_or]; rfl, rfl⟩

theorem ty_small (w : World) (A : Option Addr) (c : Nat) (l : List Int) (n : Nat) (hl : l.length = n) (hC : (Kd.int .i64).C w A n l) :
    Calls Try.prog 29 #[.slice A n c] w fun e w' => e = .returned (.bool (smallL l)) ∧ Below w.heap.size w w' := by
  have hq := hide (int_containsFunc 60 #[] (fun args w => by rfl) noByte w A c l n hl hC
    (fun j y wr hj hb => (small_1 wr y).mono fun e w' ⟨he, hb'⟩ => ⟨he, by rw [← hb']; exact hb⟩))
  unfold smallL
  obtain ⟨r, hr⟩ : ∃ r, l.any noByte = r := ⟨_, rfl⟩
  rw [hr] at hq ⊢
  clear hr hC hl
  go_enter Try.func29, Try.ntmps29
  go_wp2_with fail
  refine hq.out.mono ?_
  rintro e w1 ⟨rfl, hb1⟩
  go_wp2_with fail
  go_ret
  exact ⟨rfl, hb1⟩

def putS (l : List Int) : ByteArray := strOfNums (l.map (· % 256))

theorem putS_snoc {l : List Int} {k : Nat} {y : Int} (hy : l[k]? = some y) : putS (l.take (k + 1)) = putS (l.take k) ++ strOfNums [IntKind.u64.wrap y % 256] := by
  unfold putS
  rw [strOfNums_append]
  congr 1
  rw [List.take_add_one, hy, List.map_append]
  congr 1
  simp
  have e : IntKind.u64.wrap y = y % 18446744073709551616 := rfl
  rw [e]
  omega

theorem ty_put (w : World) (A : Option Addr) (c : Nat) (l : List Int) (n : Nat) (hl : l.length = n) (hC : (Kd.int .i64).C w A n l) :
    Calls Try.prog 30 #[.slice A n c] w fun e w' => e = .returned (.string (putS l)) ∧ Below w.heap.size w w' := by
  have hn : (n : Int) ≤ 9223372036854775807 := by have := hC.2.1; omega
  go_enter Try.func30, Try.ntmps30
  go_wp2_with fail
  go_loopw [2, 7] (fun s i wr => ∃ (k : Nat), k ≤ n ∧ i = .int .i64 k ∧ s = .string (putS (l.take k)) ∧ Below w.heap.size w wr) (fun s i _ => n - (intOf i).toNat)
  case atStart => exact ⟨0, Nat.zero_le _, rfl, rfl, Below.refl _ w⟩
  case round =>
    obtain ⟨k, hk, rfl, rfl, hB⟩ := hrel
    by_cases hd : k < n
    · have hd' : (k : Int) < n := by omega
      obtain ⟨y, hy⟩ : ∃ x, l[k]? = some x := ⟨_, List.getElem?_eq_getElem (by rw [hl]; exact hd)⟩
      obtain ⟨cb, off, rfl, e0⟩ := int_at hC hB hy
      have hd2 : decide ((k : Int) < n) = true := decide_eq_true hd'
      have hk0 : (0 : Int) ≤ k := by omega
      have hw0 : 0 ≤ IntKind.u64.wrap y := by rw [show IntKind.u64.wrap y = y % 18446744073709551616 from rfl]; omega
      have hw1 : IntKind.u64.wrap y < 18446744073709551616 := by rw [show IntKind.u64.wrap y = y % 18446744073709551616 from rfl]; omega
      have hq := hide (word_of_1 (IntKind.u64.wrap y) hw0 hw1 wr)
      have hs := hide (putS_snoc hy)
      have hbig : ¬ (9223372036854775807 < (putS (List.take k l)).size + (strOfNums [IntKind.u64.wrap y % 256]).size) := by
        unfold putS
        rw [strOfNums_size_, strOfNums_size_, List.length_map, List.length_take, List.length_singleton]
        omega
      clear hw0 hw1
      go_wp2_with fail
      refine hq.out.mono ?_
      rintro e w1 ⟨rfl, hb1⟩
      go_wp2_with fail
      go_roundw
      case rel =>
        exact ⟨k + 1, by omega, by simp, by rw [hs.out], bel_trans hB hb1⟩
      case measure => simp [intOf]; omega
    · have hkn : k = n := by omega
      subst hkn
      have hd2 : decide ((k : Int) < k) = false := by simp
      go_wp2_with fail
      go_ret
      exact ⟨by rw [List.take_of_length_le (by omega)]; rfl, hB⟩

def flSame (f g : Fl) : Bool := f.nm.toList == g.nm.toList && (f.kd == g.kd && (f.at_ == g.at_ && (f.of == g.of && f.node == g.node)))
def flsSame (l m : List Fl) : Bool := decide (l.length = m.length) && (l.zip m).all fun p => flSame p.1 p.2
def tpSame (x y : Tp) : Bool := x.nm.toList == y.nm.toList && (x.sz == y.sz && flsSame x.fs y.fs)
def tysSame (l m : List Tp) : Bool := decide (l.length = m.length) && (l.zip m).all fun p => tpSame p.1 p.2

theorem eqFl (d : Nat) (w : World) (x0 y0 : ByteArray) (x1 y1 : Int) (x2 y2 : Int) (x3 y3 : Int) (x4 y4 : Int) :
    (Op.equalIn (d + 2) 46 (.agg #[.string x0, .int .u8 x1, .int .i64 x2, .int .i64 x3, .int .i64 x4]) (.agg #[.string y0, .int .u8 y1, .int .i64 y2, .int .i64 y3, .int .i64 y4])).run Try.prog w = .ok (flSame ⟨x0, x1, x2, x3, x4⟩ ⟨y0, y1, y2, y3, y4⟩) w := by
  unfold flSame
  refine eqA_of Try.underlying46 (by kernel_rfl) ?_
  refine eqf_cons (by rfl) (by go_simp; rfl) (by go_simp; rfl) (by go_simp) ?_
  refine eqf_cons (by rfl) (by go_simp; rfl) (by go_simp; rfl) (by go_simp) ?_
  refine eqf_cons (by rfl) (by go_simp; rfl) (by go_simp; rfl) (by go_simp) ?_
  refine eqf_cons (by rfl) (by go_simp; rfl) (by go_simp; rfl) (by go_simp) ?_
  exact eqf_last (by rfl) (by go_simp; rfl) (by go_simp; rfl) (by go_simp)

theorem zip_all_step {α : Type} (q : α → α → Bool) {l m : List α} {k : Nat} {x y : α} (hx : l[k]? = some x) (hy : m[k]? = some y) :
    ((l.zip m).take (k + 1)).all (fun p => q p.1 p.2) = (((l.zip m).take k).all (fun p => q p.1 p.2) && q x y) := by
  have h : (l.zip m)[k]? = some (x, y) := by rw [List.getElem?_zip_eq_some]; exact ⟨hx, hy⟩
  rw [List.take_add_one, h]
  simp

theorem zip_all_false {α : Type} (q : α → α → Bool) {l m : List α} {k : Nat} {x y : α} (hx : l[k]? = some x) (hy : m[k]? = some y) (h : q x y = false) :
    (l.zip m).all (fun p => q p.1 p.2) = false := by
  rw [List.all_eq_false]
  have hz : (l.zip m)[k]? = some (x, y) := by rw [List.getElem?_zip_eq_some]; exact ⟨hx, hy⟩
  exact ⟨(x, y), List.mem_of_getElem? hz, by simp [h]⟩

attribute [local go_sem high] eqFl in
theorem fl_equal (w : World) (A A' : Option Addr) (c c' : Nat) (l m : List Fl) (n n' : Nat) (hl : l.length = n) (hm : m.length = n') (hC : kF.C w A n l) (hC' : kF.C w A' n' m) :
    Calls Try.prog 41 #[.slice A n c, .slice A' n' c'] w fun e w' => e = .returned (.bool (flsSame l m)) ∧ Below w.heap.size w w' := by
  have hn : (n : Int) ≤ 9223372036854775807 := by have := hC.2.1; omega
  by_cases hnn : n = n'
  · subst hnn
    have hnb : ((n : Int) != n) = false := by simp
    go_enter Try.func41, Try.ntmps41
    go_wp2_with fail
    go_loopw [13] (fun i wr => ∃ (k : Nat), k ≤ n ∧ i = .int .i64 k ∧ ((l.zip m).take k).all (fun p => flSame p.1 p.2) = true ∧ Below w.heap.size w wr) (fun i _ => n - (intOf i).toNat)
    case atStart => exact ⟨0, Nat.zero_le _, rfl, rfl, Below.refl _ w⟩
    case round =>
      obtain ⟨k, hk, rfl, hall, hB⟩ := hrel
      by_cases hd : k < n
      · have hd' : (k : Int) < n := by omega
        obtain ⟨x, hx⟩ : ∃ x, l[k]? = some x := ⟨_, List.getElem?_eq_getElem (by rw [hl]; exact hd)⟩
        obtain ⟨y, hy⟩ : ∃ x, m[k]? = some x := ⟨_, List.getElem?_eq_getElem (by rw [hm]; exact hd)⟩
        obtain ⟨cb, off, rfl, e0, e1, e2, e3, e4⟩ := fl_at hC hB hx
        obtain ⟨cb', off', rfl, f0, f1, f2, f3, f4⟩ := fl_at hC' hB hy
        have hd2 : decide ((k : Int) < n) = true := decide_eq_true hd'
        have hk0 : (0 : Int) ≤ k := by omega
        have hxy := hide (hall)
        have hX := hide hx
        have hY := hide hy
        have hBB := hide hB
        clear hall hx hy hB
        cases ht : flSame ⟨x.nm, x.kd, x.at_, x.of, x.node⟩ ⟨y.nm, y.kd, y.at_, y.of, y.node⟩ with
        | true =>
          go_wp2_with fail
          go_quiet (fail)
          go_wp2_with fail
          go_roundw
          case rel =>
            refine ⟨k + 1, by omega, by simp, ?_, Below.drewN_ hBB.out _⟩
            rw [zip_all_step flSame hX.out hY.out, hxy.out, Bool.true_and]
            exact ht
          case measure => simp [intOf]; omega
        | false =>
          go_wp2_with fail
          go_quiet (fail)
          go_wp2_with fail
          go_ret
          exact ⟨by unfold flsSame; rw [zip_all_false flSame hX.out hY.out ht, Bool.and_false]; rfl, Below.drewN_ hBB.out _⟩
      · have hkn : k = n := by omega
        subst hkn
        have hd2 : decide ((k : Int) < k) = false := by simp
        go_wp2_with fail
        go_ret
        refine ⟨?_, hB⟩
        unfold flsSame
        rw [decide_eq_true (by omega), Bool.true_and]
        rw [List.take_of_length_le (by simp; omega)] at hall
        rw [hall]
        rfl
  · have hnb : ((n : Int) != n') = true := by simp; omega
    have hr : flsSame l m = false := by unfold flsSame; rw [decide_eq_false (by omega), Bool.false_and]
    rw [hr]
    clear hC hC' hl hm hr hnn
    go_enter Try.func41, Try.ntmps41
    go_wp2_with fail
    go_ret
    exact ⟨rfl, Below.refl _ w⟩

theorem same_1 (w : World) (x y : Tp) (A A' : Option Addr) (c c' : Nat) (hC : kF.C w A x.fs.length x.fs) (hC' : kF.C w A' y.fs.length y.fs) :
    Calls Try.prog 40 #[.agg #[.string x.nm, .int .i64 x.sz, .slice A x.fs.length c], .agg #[.string y.nm, .int .i64 y.sz, .slice A' y.fs.length c']] w fun e w' => e = .returned (.bool (tpSame x y)) ∧ Below w.heap.size w w' := by
  obtain ⟨xn, xs, xf⟩ := x
  obtain ⟨yn, ys, yf⟩ := y
  unfold tpSame
  simp only [] at hC hC' ⊢
  have hB1 := below_box w (.cells #[.string xn, .int .i64 xs, .slice A xf.length c] 44)
  have hB2 := hide (bel_trans hB1 (below_box _ (.cells #[.string yn, .int .i64 ys, .slice A' yf.length c'] 44)))
  have hq := hide (fl_equal _ A A' c c' xf yf _ _ rfl rfl (Kd.C_below hC hB2.out) (Kd.C_below hC' hB2.out))
  obtain ⟨q, hqq⟩ : ∃ q, flsSame xf yf = q := ⟨_, rfl⟩
  rw [hqq] at hq ⊢
  clear hC hC' hB1 hqq
  cases h0 : xn.toList == yn.toList with
  | false =>
    rw [Bool.false_and]
    go_enter Try.func40, Try.ntmps40
    go_wp2_with fail
    go_ret
    exact ⟨rfl, hB2.out⟩
  | true =>
    cases h1 : xs == ys with
    | false =>
      rw [Bool.false_and, Bool.and_false]
      go_enter Try.func40, Try.ntmps40
      go_wp2_with fail
      go_ret
      exact ⟨rfl, hB2.out⟩
    | true =>
      rw [Bool.true_and, Bool.true_and]
      go_enter Try.func40, Try.ntmps40
      go_wp2_with fail
      refine hq.out.mono ?_
      rintro e w1 ⟨rfl, hb1⟩
      go_wp2_with fail
      go_ret
      exact ⟨rfl, bel_trans hB2.out hb1⟩

theorem tp_equalFunc (w : World) (A A' : Option Addr) (c c' : Nat) (l m : List Tp) (n n' : Nat) (hl : l.length = n) (hm : m.length = n') (hC : kT.C w A n l) (hC' : kT.C w A' n' m) :
    Calls Try.prog 39 #[.slice A n c, .slice A' n' c', .func (.func 40) #[] #[]] w fun e w' => e = .returned (.bool (tysSame l m)) ∧ Below w.heap.size w w' := by
  have hn : (n : Int) ≤ 9223372036854775807 := by have := hC.2.1; omega
  by_cases hnn : n = n'
  · subst hnn
    have hnb : ((n : Int) != n) = false := by simp
    go_enter Try.func39, Try.ntmps39
    go_wp2_with fail
    go_loopw [17] (fun i wr => ∃ (k : Nat), k ≤ n ∧ i = .int .i64 k ∧ ((l.zip m).take k).all (fun p => tpSame p.1 p.2) = true ∧ Below w.heap.size w wr) (fun i _ => n - (intOf i).toNat)
    case atStart => exact ⟨0, Nat.zero_le _, rfl, rfl, Below.refl _ w⟩
    case round =>
      obtain ⟨k, hk, rfl, hall, hB⟩ := hrel
      by_cases hd : k < n
      · have hd' : (k : Int) < n := by omega
        obtain ⟨x, hx⟩ : ∃ x, l[k]? = some x := ⟨_, List.getElem?_eq_getElem (by rw [hl]; exact hd)⟩
        obtain ⟨y, hy⟩ : ∃ x, m[k]? = some x := ⟨_, List.getElem?_eq_getElem (by rw [hm]; exact hd)⟩
        obtain ⟨cb, off, A2, c2, rfl, e0, e1, e2, hl2, hF⟩ := tp_at hC hB hx
        obtain ⟨cb', off', A2', c2', rfl, f0, f1, f2, hl2', hF'⟩ := tp_at hC' hB hy
        have hd2 : decide ((k : Int) < n) = true := decide_eq_true hd'
        have hk0 : (0 : Int) ≤ k := by omega
        have f0' := cell_on f0 (.cells #[.string x.nm, .int .i64 x.sz, .slice A2 x.fs.length c2] 44)
        have f1' := cell_on f1 (.cells #[.string x.nm, .int .i64 x.sz, .slice A2 x.fs.length c2] 44)
        have f2' := cell_on f2 (.cells #[.string x.nm, .int .i64 x.sz, .slice A2 x.fs.length c2] 44)
        have hBx := hide (hB.trans ((bel_trans (below_box wr (.cells #[.string x.nm, .int .i64 x.sz, .slice A2 x.fs.length c2] 44)) (below_box _ (.cells #[.string y.nm, .int .i64 y.sz, .slice A2' y.fs.length c2'] 44))).mono hB.size))
        have hxy := hide (hall)
        have hX := hide hx
        have hY := hide hy
        have hBB := hide hB
        have hFF := hide hF
        have hFF' := hide hF'
        clear hall hx hy hB hF hF'
        have hq := hide (fun W (hW : Below w.heap.size w W) => same_1 W x y A2 A2' c2 c2' (Kd.C_below hFF.out hW) (Kd.C_below hFF'.out hW))
        cases ht : tpSame x y with
        | true =>
          rw [ht] at hq
          go_wp2_with fail
          refine (hq.out _ hBx.out).mono ?_
          rintro e w1 ⟨rfl, hb1⟩
          go_wp2_with fail
          go_roundw
          case rel =>
            refine ⟨k + 1, by omega, by simp, ?_, hBx.out.trans (hb1.mono hBx.out.size)⟩
            rw [zip_all_step tpSame hX.out hY.out, hxy.out, Bool.true_and]
            exact ht
          case measure => simp [intOf]; omega
        | false =>
          rw [ht] at hq
          go_wp2_with fail
          refine (hq.out _ hBx.out).mono ?_
          rintro e w1 ⟨rfl, hb1⟩
          go_wp2_with fail
          go_ret
          exact ⟨by unfold tysSame; rw [zip_all_false tpSame hX.out hY.out ht, Bool.and_false]; rfl, hBx.out.trans (hb1.mono hBx.out.size)⟩
      · have hkn : k = n := by omega
        subst hkn
        have hd2 : decide ((k : Int) < k) = false := by simp
        go_wp2_with fail
        go_ret
        refine ⟨?_, hB⟩
        unfold tysSame
        rw [decide_eq_true (by omega), Bool.true_and]
        rw [List.take_of_length_le (by simp; omega)] at hall
        rw [hall]
        rfl
  · have hnb : ((n : Int) != n') = true := by simp; omega
    have hr : tysSame l m = false := by unfold tysSame; rw [decide_eq_false (by omega), Bool.false_and]
    rw [hr]
    clear hC hC' hl hm hr hnn
    go_enter Try.func39, Try.ntmps39
    go_wp2_with fail
    go_ret
    exact ⟨rfl, Below.refl _ w⟩

theorem ty_same (w : World) (A A' : Option Addr) (c c' : Nat) (l m : List Tp) (n n' : Nat) (hl : l.length = n) (hm : m.length = n') (hC : kT.C w A n l) (hC' : kT.C w A' n' m) :
    Calls Try.prog 17 #[.slice A n c, .slice A' n' c'] w fun e w' => e = .returned (.bool (tysSame l m)) ∧ Below w.heap.size w w' := by
  have hq := hide (tp_equalFunc w A A' c c' l m n n' hl hm hC hC')
  obtain ⟨r, hr⟩ : ∃ r, tysSame l m = r := ⟨_, rfl⟩
  rw [hr] at hq ⊢
  clear hC hC' hr hl hm
  go_enter Try.func17, Try.ntmps17
  go_wp2_with fail
  refine hq.out.mono ?_
  rintro e w1 ⟨rfl, hb1⟩
  go_wp2_with fail
  go_ret
  exact ⟨rfl, hb1⟩
end Go.Proofs.Ytkflofjcjolehaa
