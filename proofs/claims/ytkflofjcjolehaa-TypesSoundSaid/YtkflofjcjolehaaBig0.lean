/- Types: lemmas on what the functions that the laws reach answer. No conditions of their own beyond those that each theorem states. -/
import Derived.WalkKit
import Derived.Deep.QuietTactic
import Derived.BigQuiet
import Derived.Deep.RegionHeld3
import Derived.Deep.DeepCutAuto
import Derived.Deep.CutBlock
import Derived.Deep.RegionWith
import Derived.WalkSpells
import Derived.WalkLawsBesides
import Derived.Laws.BytesArg
import Derived.IntWalk
/-! Small facts on the heap that all walks of this seat share: a block that is known whole, and what leaves it as it is. -/
namespace Go.Proofs.Ytkflofjcjolehaa
open Go.RowKit

/-- A fact laid aside from the walk. -/
theorem hide {p : Prop} (h : p) : Hid p := h

theorem Below.drewN_ {B : Nat} {a w : World} (h : Below B a w) (n : Nat) : Below B a (w.drewN n) := ⟨h.os, h.tape, h.output, h.size, h.block⟩

theorem wrap_u64 {x : Int} (h0 : 0 ≤ x) (h1 : x < 18446744073709551616) : IntKind.u64.wrap x = x := by
  have e : IntKind.u64.wrap x = x % 18446744073709551616 := rfl
  rw [e]
  omega

/-- A contract that leaves the world alone, for a region that draws its order. -/
theorem quiet_left {P : Program} {f : FuncId} {args : Array Value} {w : World} {n : Nat} {v : Value} (h : Calls P f args (w.drewN n) fun e w' => e = .returned v ∧ w.drewN n = w') :
    Calls P f args (w.drewN n) fun e w2 => e = .returned v ∧ ∃ m, w2 = w.drewN m := h.mono fun _ _ ⟨he, hm⟩ => ⟨he, n, hm.symm⟩

/-- Block g holds just the cells cs of element type t; none is frozen. -/
def Has (w : World) (g : Nat) (t : TypeId) (cs : Array Value) : Prop := w.heap[g]? = some (.cells cs t (0, 0))

section
variable {w w' w2 : World} {g : Nat} {t : TypeId} {cs : Array Value}

theorem Has.lt (h : Has w g t cs) : g < w.heap.size := by
  rcases Nat.lt_or_ge g w.heap.size with hlt | hge
  · exact hlt
  · unfold Has at h
    rw [Array.getElem?_eq_none hge] at h
    cases h

theorem Has.cell (h : Has w g t cs) (i : Nat) : w.cell? ⟨g, i, none⟩ = cs[i]? := by
  unfold Has at h
  simp [World.cell?, h]

theorem Has.free (h : Has w g t cs) (i : Nat) : w.frozen? ⟨g, i, none⟩ = false := by
  unfold Has at h
  simp [World.frozen?, h]

theorem Has.new (w : World) (t : TypeId) (cs : Array Value) : Has (w.alloc (.cells cs t)) w.heap.size t cs := by
  show (w.heap.push _)[w.heap.size]? = _
  simp

theorem Has.alloc (h : Has w g t cs) (o : Obj) : Has (w.alloc o) g t cs := (Below.heap_alloc w o g h.lt).trans h

theorem Has.drew (h : Has w g t cs) : Has w.drew g t cs := h
theorem Has.drewN (h : Has w g t cs) (n : Nat) : Has (w.drewN n) g t cs := h

theorem Has.set (h : Has w g t cs) (i : Nat) (u : Value) : Has (w.setCell ⟨g, i, none⟩ u) g t (cs.setIfInBounds i u) := by
  unfold Has at h ⊢
  simp [World.setCell, Array.getElem?_modify, h]

theorem Has.far (h : Has w g t cs) {p : Addr} (hp : g ≠ p.block) (u : Value) : Has (w.setCell p u) g t cs :=
  (Below.heap_setCell w p u g hp).trans h

theorem Has.below {B : Nat} (h : Has w g t cs) (hb : Below B w w') (hg : g < B) : Has w' g t cs := (hb.block g hg).trans h

theorem Has.eq {t2 : TypeId} {cs2 : Array Value} (h : Has w g t cs) (h2 : Has w g t2 cs2) : t = t2 ∧ cs = cs2 := by
  unfold Has at h h2
  rw [h] at h2
  injection h2 with h2
  injection h2 with a b
  exact ⟨b, a⟩

theorem Has.ne {g2 : Nat} {t2 : TypeId} {cs2 : Array Value} (h : Has w g t cs) (h2 : Has w g2 t2 cs2) (hn : t ≠ t2) : g ≠ g2 := by
  rintro rfl
  exact hn (h.eq h2).1
end

/-- From w to w' only blocks that satisfy S, and new ones, have turned. -/
structure Turned (S : Nat → Prop) (w w' : World) : Prop where
  os : w'.os = w.os
  tape : w'.tape = w.tape
  output : w'.output = w.output
  size : w.heap.size ≤ w'.heap.size
  block : ∀ k, k < w.heap.size → ¬ S k → w'.heap[k]? = w.heap[k]?

theorem size_set (w : World) (a : Addr) (v : Value) : (w.setCell a v).heap.size = w.heap.size := by simp [World.setCell]

section
variable {S S2 : Nat → Prop} {w w' w2 : World}

theorem Turned.refl (S : Nat → Prop) (w : World) : Turned S w w := ⟨rfl, rfl, rfl, Nat.le_refl _, fun _ _ _ => rfl⟩

theorem Turned.trans (h : Turned S w w') (k : Turned S w' w2) : Turned S w w2 :=
  ⟨k.os.trans h.os, k.tape.trans h.tape, k.output.trans h.output, Nat.le_trans h.size k.size,
    fun i hi hn => (k.block i (Nat.lt_of_lt_of_le hi h.size) hn).trans (h.block i hi hn)⟩

theorem Turned.wide (h : Turned S w w') (hs : ∀ k, k < w.heap.size → S k → S2 k) : Turned S2 w w' :=
  ⟨h.os, h.tape, h.output, h.size, fun i hi hn => h.block i hi fun hk => hn (hs i hi hk)⟩

theorem Turned.drew (h : Turned S w w') : Turned S w w'.drew := ⟨h.os, h.tape, h.output, h.size, h.block⟩
theorem Turned.drewN (h : Turned S w w') (n : Nat) : Turned S w (w'.drewN n) := ⟨h.os, h.tape, h.output, h.size, h.block⟩

theorem Turned.alloc (h : Turned S w w') (o : Obj) : Turned S w (w'.alloc o) :=
  ⟨h.os, h.tape, h.output, Nat.le_trans h.size (by simp), fun i hi hn => (Below.heap_alloc w' o i (Nat.lt_of_lt_of_le hi h.size)).trans (h.block i hi hn)⟩

theorem Turned.set (h : Turned S w w') {p : Addr} (hp : p.block < w.heap.size → S p.block) (u : Value) : Turned S w (w'.setCell p u) :=
  ⟨h.os, h.tape, h.output, by simpa [World.setCell] using h.size, fun i hi hn => (Below.heap_setCell w' p u i (by
    rintro rfl
    exact hn (hp hi))).trans (h.block i hi hn)⟩

theorem Turned.grown {row : Option Nat} (hg : w.grownBy w' row) (hr : ∀ k, row = some k → S k) : Turned S w w' :=
  ⟨hg.os, hg.tape, hg.output, hg.size, fun k hk hn => hg.block k hk fun e => hn (hr k e.symm)⟩

theorem Turned.of_below (h : Below w.heap.size w w') : Turned S w w' := ⟨h.os, h.tape, h.output, h.size, fun k hk _ => h.block k hk⟩

theorem Turned.below (h : Turned S w w') {B : Nat} (hB : B ≤ w.heap.size) (hs : ∀ k, S k → B ≤ k) : Below B w w' :=
  ⟨h.os, h.tape, h.output, h.size, fun k hk => h.block k (Nat.lt_of_lt_of_le hk hB) fun hc => by have := hs k hc; omega⟩

theorem Turned.cell (h : Turned S w w') {p : Addr} {v : Value} (hc : w.cell? p = some v) (hp : ¬ S p.block) : w'.cell? p = some v :=
  (World.cell?_of_block (h.block p.block (World.block_lt_of_cell? w p hc) hp)).trans hc

theorem Has.turned {g : Nat} {t : TypeId} {cs : Array Value} (h : Has w g t cs) (ht : Turned S w w') (hg : ¬ S g) : Has w' g t cs := (ht.block g h.lt hg).trans h
end

end Go.Proofs.Ytkflofjcjolehaa

/-! Numbers as bytes, in plain Lean: what the calls of package word answer. -/
namespace Go.Proofs.Ytkflofjcjolehaa
open Go.RowKit

/-- The bytes of x, the lowest first. -/
def wordNums (x : Int) : Nat → List Int
  | 0 => []
  | n + 1 => x % 256 :: wordNums (x / 256) n

theorem wordNums_2 (x : Int) : wordNums x 2 = [x % 256, x / 256 % 256] := rfl
theorem wordNums_4 (x : Int) : wordNums x 4 = [x % 256, x / 256 % 256, x / 65536 % 256, x / 16777216 % 256] := by
  simp only [wordNums, List.cons.injEq, and_true, true_and]
  omega
theorem wordNums_8 (x : Int) (h0 : 0 ≤ x) (h1 : x < 18446744073709551616) :
    wordNums x 8 = [x % 256, x / 256 % 256, x / 65536 % 256, x / 16777216 % 256, x / 4294967296 % 256, x / 1099511627776 % 256, x / 281474976710656 % 256, x / 72057594037927936] := by
  simp only [wordNums, List.cons.injEq, and_true, true_and]
  omega

/-- What word.Of answers. -/
def wordOf (x n : Int) : ByteArray := if n = 1 ∨ n = 2 ∨ n = 4 ∨ n = 8 then strOfNums (wordNums x n.toNat) else ⟨#[]⟩

theorem nat_or (x y i : Nat) (hx : x % 2 ^ i = 0) (hy : y < 2 ^ i) : x ||| y = x + y := by
  have e : x = (x / 2 ^ i) <<< i := by
    rw [Nat.shiftLeft_eq]
    have := Nat.div_add_mod x (2 ^ i)
    rw [hx, Nat.mul_comm] at this
    omega
  rw [e]
  exact (Nat.shiftLeft_add_eq_or_of_lt hy _).symm

theorem bits_or_nat (k : IntKind) (x y : Int) (i : Nat) (hi : i ≤ k.bits) (hx : x % 2 ^ i = 0) (h0 : 0 ≤ y) (h1 : y < 2 ^ i) :
    bits .or k x y = k.wrap (x % 2 ^ k.bits + y) ∧ bits .or k y x = k.wrap (x % 2 ^ k.bits + y) := by
  have hp : (0 : Int) < 2 ^ k.bits := Int.pow_pos (by decide)
  have hle : (2 : Int) ^ i ≤ 2 ^ k.bits := by
    exact_mod_cast Nat.pow_le_pow_right (by decide) hi
  have hdvd : (2 : Int) ^ i ∣ 2 ^ k.bits := by
    have : (2 : Nat) ^ i ∣ 2 ^ k.bits := Nat.pow_dvd_pow 2 hi
    exact_mod_cast this
  have ex : (BitVec.ofInt k.bits x).toNat = (x % 2 ^ k.bits).toNat := by
    simp [BitVec.toNat_ofInt]
  have ey : (BitVec.ofInt k.bits y).toNat = y.toNat := by
    have : y % 2 ^ k.bits = y := Int.emod_eq_of_lt h0 (by omega)
    simp [BitVec.toNat_ofInt, this]
  have hxm : ((x % 2 ^ k.bits).toNat) % 2 ^ i = 0 := by
    have h := Int.emod_emod_of_dvd x hdvd
    rw [hx] at h
    have hnn : 0 ≤ x % 2 ^ k.bits := Int.emod_nonneg _ (by omega)
    have : (((x % 2 ^ k.bits).toNat : Nat) : Int) % ((2 ^ i : Nat) : Int) = 0 := by
      rw [Int.toNat_of_nonneg hnn]
      exact_mod_cast h
    exact_mod_cast this
  have hym : y.toNat < 2 ^ i := by
    have : ((y.toNat : Nat) : Int) < ((2 ^ i : Nat) : Int) := by
      rw [Int.toNat_of_nonneg h0]
      exact_mod_cast h1
    exact_mod_cast this
  have hnn : 0 ≤ x % 2 ^ k.bits := Int.emod_nonneg _ (by omega)
  have hor := nat_or _ _ i hxm hym
  constructor
  · unfold bits
    simp only [BitVec.toNat_or, ex, ey, hor]
    congr 1
    rw [Int.natCast_add, Int.toNat_of_nonneg hnn, Int.toNat_of_nonneg h0]
  · unfold bits
    simp only [BitVec.toNat_or, ex, ey]
    rw [Nat.or_comm, hor]
    congr 1
    rw [Int.natCast_add, Int.toNat_of_nonneg hnn, Int.toNat_of_nonneg h0]

/-- A low part and a multiple of 2 ^ i beside it, unsigned. -/
theorem u64_or (x y : Int) (i : Nat) (hi : i ≤ 64) (hx : x % 2 ^ i = 0) (hx0 : 0 ≤ x) (hx1 : x < 18446744073709551616) (h0 : 0 ≤ y) (h1 : y < 2 ^ i) (hs : x + y < 18446744073709551616) :
    bits .or .u64 y x = y + x := by
  rw [(bits_or_nat .u64 x y i hi hx h0 h1).2]
  have e : x % 2 ^ IntKind.u64.bits = x := Int.emod_eq_of_lt hx0 (by simpa [IntKind.bits] using hx1)
  rw [e, IntWalk.u64_in _ (by omega)]
  omega

/-- Likewise with a sign. -/
theorem i64_or (x y : Int) (i : Nat) (hi : i ≤ 64) (hx : x % 2 ^ i = 0) (h0 : 0 ≤ y) (h1 : y < 2 ^ i) (hs0 : -9223372036854775808 ≤ x + y) (hs1 : x + y ≤ 9223372036854775807) :
    bits .or .i64 x y = x + y := by
  rw [(bits_or_nat .i64 x y i hi hx h0 h1).1]
  have e : (x % 2 ^ IntKind.i64.bits : Int) = x % 18446744073709551616 := by simp [IntKind.bits]
  rw [e, IntKind.wrap_i64]
  omega

/-- A byte of a text. -/
def byteAt (s : ByteArray) (i : Nat) : Int := if h : i < s.size then ((s[i]'h).toNat : Int) else 0

theorem byteAt_range (s : ByteArray) (i : Nat) : 0 ≤ byteAt s i ∧ byteAt s i < 256 := by
  unfold byteAt
  split
  · rename_i h
    have := (s[i]'h).toNat_lt
    omega
  · omega

theorem byteAt_eq (s : ByteArray) (i : Nat) (h : i < s.size) : ((s[i]'h).toNat : Int) = byteAt s i := by
  unfold byteAt
  rw [dif_pos h]

/-- The number whose n bytes stand in s from i on, the lowest first. -/
def numAt (s : ByteArray) (i : Nat) : Nat → Int
  | 0 => 0
  | n + 1 => byteAt s i + 256 * numAt s (i + 1) n

theorem numAt_range (s : ByteArray) (i n : Nat) : 0 ≤ numAt s i n ∧ numAt s i n < 256 ^ n := by
  induction n generalizing i with
  | zero => simp [numAt]
  | succ n ih =>
    have h1 := byteAt_range s i
    have h2 := ih (i + 1)
    have e : (256 : Int) ^ (n + 1) = 256 * 256 ^ n := by rw [Int.pow_succ]; omega
    rw [e]
    simp only [numAt]
    omega

def wordMay (n : Int) : Bool := n == 1 || n == 2 || n == 4 || n == 8

theorem wordMay_iff (n : Int) : wordMay n = true ↔ (n = 1 ∨ n = 2 ∨ n = 4 ∨ n = 8) := by simp [wordMay, or_assoc]

/-- What word.Get answers. -/
def wordGet (s : ByteArray) (i n : Int) : Int × Int :=
  if ¬ (n = 1 ∨ n = 2 ∨ n = 4 ∨ n = 8) ∨ i < 0 then (0, 2)
  else if i > s.size ∨ n > s.size - i then (0, 10)
  else (numAt s i.toNat n.toNat, 0)

theorem wordGet_ok {s : ByteArray} {i n : Int} (h : (wordGet s i n).2 = 0) : 0 ≤ i ∧ i ≤ s.size ∧ n ≤ s.size - i ∧ (n = 1 ∨ n = 2 ∨ n = 4 ∨ n = 8) := by
  unfold wordGet at h
  split at h
  · simp at h
  · split at h
    · simp at h
    · omega

/-- What word.Set answers. -/
def wordSet (s : ByteArray) (i x n : Int) : ByteArray × Int :=
  if (wordGet s i n).2 ≠ 0 then (⟨#[]⟩, (wordGet s i n).2)
  else (s.extract 0 i.toNat ++ wordOf x n ++ s.extract (i + n).toNat s.size, 0)

/-- What word.Low answers. -/
def wordLow (x n : Int) : Int := if n = 1 ∨ n = 2 ∨ n = 4 ∨ n = 8 then x % 256 ^ n.toNat else 0

/-- What word.Sign answers. -/
def wordSign (x n : Int) : Int :=
  if n = 1 ∨ n = 2 ∨ n = 4 ∨ n = 8 then
    (if x % 256 ^ n.toNat < 256 ^ n.toNat / 2 then x % 256 ^ n.toNat else x % 256 ^ n.toNat - 256 ^ n.toNat) else 0

theorem strOfNums_append (l m : List Int) : strOfNums l ++ strOfNums m = strOfNums (l ++ m) := by
  apply ByteArray.ext
  simp [strOfNums, ByteArray.data_append]

theorem wordNums_length (x : Int) (n : Nat) : (wordNums x n).length = n := by
  induction n generalizing x with
  | zero => rfl
  | succ n ih => simp [wordNums, ih]

theorem wordNums_range (x : Int) (n : Nat) : ∀ b ∈ wordNums x n, 0 ≤ b ∧ b < 256 := by
  induction n generalizing x with
  | zero => intro b hb; simp [wordNums] at hb
  | succ n ih =>
    intro b hb
    simp only [wordNums, List.mem_cons] at hb
    rcases hb with rfl | hb
    · omega
    · exact ih _ b hb

theorem strOfNums_size_ (l : List Int) : (strOfNums l).size = l.length := by simp [strOfNums, ByteArray.size]

theorem byteAt_str (l : List Int) (hl : ∀ b ∈ l, 0 ≤ b ∧ b < 256) (i : Nat) (h : i < l.length) : byteAt (strOfNums l) i = l[i] := by
  have h2 : i < (strOfNums l).size := by rw [strOfNums_size_]; exact h
  unfold byteAt
  rw [dif_pos h2]
  have e : (strOfNums l)[i] = UInt8.ofNat (l[i].toNat) := by
    show (strOfNums l).data[i] = _
    simp [strOfNums]
  rw [e]
  have := hl l[i] (List.getElem_mem h)
  rw [UInt8.toNat_ofNat']
  omega

def numOf : List Int → Int
  | [] => 0
  | b :: l => b + 256 * numOf l

theorem numAt_str (l : List Int) (hl : ∀ b ∈ l, 0 ≤ b ∧ b < 256) (n : Nat) : ∀ i, i + n ≤ l.length → numAt (strOfNums l) i n = numOf ((l.drop i).take n) := by
  induction n with
  | zero => intro i _; simp [numAt, numOf]
  | succ n ih =>
    intro i h
    have hi : i < l.length := by omega
    rw [List.drop_eq_getElem_cons hi]
    simp only [numAt, List.take_succ_cons, numOf]
    rw [byteAt_str l hl i hi, ih (i + 1) (by omega)]

theorem numAt_word (x : Int) (n : Nat) : numAt (strOfNums (wordNums x n)) 0 n = numOf (wordNums x n) := by
  rw [numAt_str _ (wordNums_range x n) n 0 (by rw [wordNums_length]; omega)]
  rw [List.drop_zero, List.take_of_length_le (by rw [wordNums_length]; exact Nat.le_refl _)]

theorem numOf_word (x : Int) (h0 : 0 ≤ x) (h1 : x < 18446744073709551616) :
    numOf (wordNums x 1) = x % 256 ∧ numOf (wordNums x 2) = x % 65536 ∧ numOf (wordNums x 4) = x % 4294967296 ∧ numOf (wordNums x 8) = x % 18446744073709551616 := by
  simp only [wordNums, numOf]
  omega

theorem wordOf_size (x n : Int) : (wordOf x n).size ≤ 8 := by
  unfold wordOf
  split
  · rename_i h
    rw [strOfNums_size_, wordNums_length]
    omega
  · simp [ByteArray.size]

theorem wordOf_size_eq (x n : Int) (h : n = 1 ∨ n = 2 ∨ n = 4 ∨ n = 8) : ((wordOf x n).size : Int) = n := by
  unfold wordOf
  rw [if_pos h, strOfNums_size_, wordNums_length]
  omega

theorem wordGet_of (x n : Int) (h0 : 0 ≤ x) (h1 : x < 18446744073709551616) : (wordGet (wordOf x n) 0 n).1 = wordLow x n := by
  by_cases h : n = 1 ∨ n = 2 ∨ n = 4 ∨ n = 8
  · have hs := wordOf_size_eq x n h
    unfold wordGet
    rw [if_neg (by omega), if_neg (by omega)]
    have e : wordOf x n = strOfNums (wordNums x n.toNat) := if_pos h
    have hh := numOf_word x h0 h1
    rw [e]
    show numAt (strOfNums (wordNums x n.toNat)) 0 n.toNat = _
    rw [numAt_word]
    unfold wordLow
    rw [if_pos h]
    rcases h with rfl | rfl | rfl | rfl
    · exact hh.1
    · exact hh.2.1
    · exact hh.2.2.1
    · exact hh.2.2.2
  · unfold wordGet wordLow
    rw [if_pos (.inl h), if_neg h]

end Go.Proofs.Ytkflofjcjolehaa
