import Derived.Test.YtjfcpajajaigfaaProg
import Derived.Test.YtjfcpajajaigfaaMaps
import Derived.Laws.BytesArg
import Derived.Deep.WholeRow
import Derived.Lib.BufferWrite
import Derived.StillTailTactics
/-! The calls of package array. -/
namespace Go.Proofs.Ytjfcpajajaigfaa
open Go.RowKit Go.Maps Go.Lib
set_option maxHeartbeats 1000000
set_option maxRecDepth 100000

/-- A region that draws its order, all but whose last operations only read. -/
theorem region_tail {P : Program} {id : Nat} {Q : Exit → Act → World → Prop} {a : Act} {w : World} {l : List Oper} (n : Nat) (hm : P.follows .mixedOrders = true) (hB : Region.lexTailB .any l.toArray n = true)
    (h : ∀ wd, wd = w.drew → wpStill P l.toArray wd (fun a' => wpList P l.toArray Q (l.drop n) a' wd) (l.take n) a) : (Code.region id l.toArray true).wp P Q a w :=
  wp_region_still_tail n hm hB (h _ rfl)

/-- A load in such a region, by an equation. -/
theorem still_load {P : Program} {ops : Array Oper} {w : World} {Q : Act → Prop} {a : Act} {o : Oper} {rest : List Oper} (t : TypeId) (x : Operand) (p v : Value) (ho : o.op = .load t x) (hg : o.guard = none) (hs : a.eval x = p)
    (hl : (Instr.loadAt t p).run P w = .ok v w) (h : wpStill P ops w Q rest (a.put o.dst v)) : wpStill P ops w Q (o :: rest) a := by
  unfold wpStill
  rw [if_pos (by simp [Region.wanted, hg])]
  unfold Oper.still
  have he : (execOp a.eval o).run P w = .ok (.value v) w := by
    unfold execOp
    rw [ho]
    show ((Instr.loadAt t (a.eval x)).bind fun y => pure (Next.value y)).run P w = _
    rw [hs]
    simp only [Sem.run_bind', hl, Result.andThen]
    rfl
  rw [he, Oper.stillUpon_value]
  exact h

def intKey (a : Int) : Value := .int .i64 a
def intOk (a : Int) : Prop := (Lit.int .i64 a).wf = true
theorem int_mkey : MKey Try.prog 3 intKey intOk :=
  MKey.of_keyed (int_keyed Try.underlying3) (fun {a b} h => by simpa [intKey] using h) (fun a ha => ⟨_, keyOf_int_mk Try.underlying3 ha⟩)

/-- A value of an array's map: its bytes, as an array. -/
def arrVal (l : List Int) : Value := .agg (l.map (Value.int .u8)).toArray

theorem zero_arr (w : World) : (zeroValue 74).run Try.prog w = .ok (arrVal (List.replicate 128 0)) w := by kernel_rfl

/-- What an array's value holds. -/
def slotOf (l : List (Int × List Int)) (s : Int) : List Int := (mget l s).getD (List.replicate 128 0)

theorem wrap_i64 {x : Int} (h0 : -9223372036854775808 ≤ x) (h1 : x < 9223372036854775808) : IntKind.i64.wrap x = x := by
  rw [IntKind.wrap_i64]
  omega

theorem get_slot (l : List (Int × List Int)) (s : Int) : (mget (l.map fun p => (p.1, arrVal p.2)) s).getD (arrVal (List.replicate 128 0)) = arrVal (slotOf l s) := by
  unfold slotOf
  induction l with
  | nil => rfl
  | cons p l ih =>
    obtain ⟨k, v⟩ := p
    simp only [List.map_cons, mget]
    split
    · rfl
    · exact ih

theorem slot_length (l : List (Int × List Int)) (h : ∀ p ∈ l, p.2.length = 128) (s : Int) : (slotOf l s).length = 128 := by
  unfold slotOf
  cases e : mget l s with
  | none => simp
  | some v => exact h _ (mget_mem e)

/-- The array at block b, its map at mb. -/
def ArrIs (w : World) (b mb : Nat) (size n : Int) (l : List (Int × List Int)) : Prop :=
  Has w b 71 #[.int .i64 size, .int .i64 n, .map (some mb)] ∧ MapIs w mb intKey intOk (l.map fun p => (p.1, arrVal p.2)) ∧ ∀ p ∈ l, p.2.length = 128

theorem arr_none (w : World) (b : Nat) (size n : Int) (mb : Nat) (h : Has w b 71 #[.int .i64 size, .int .i64 n, .map (some mb)]) :
    Calls Try.prog 28 #[.pointer (some ⟨b, 0, none⟩)] w fun e w' => e = .returned (.bool false) ∧ w = w' := by
  have c2 := h.cell 2
  simp at c2
  clear h
  have hq := fun w => run_eql_map_nil (P := Try.prog) w 69 3 74 (some mb) Try.underlying69
  go_enter Try.func28, Try.ntmps28
  go_wp2
  go_ret
  exact ⟨rfl, rfl⟩

theorem arr_there (w : World) (b : Nat) (size n : Int) (mb : Nat) (h : Has w b 71 #[.int .i64 size, .int .i64 n, .map (some mb)]) (s : Int) :
    Calls Try.prog 29 #[.pointer (some ⟨b, 0, none⟩), .int .i64 s] w fun e w' => e = .returned (.bool (decide (0 ≤ s ∧ s < n))) ∧ w = w' := by
  have c1 := h.cell 1
  simp at c1
  clear h
  by_cases h1 : 0 ≤ s
  · by_cases h2 : s < n
    · rw [decide_eq_true (show 0 ≤ s ∧ s < n from ⟨h1, h2⟩)]
      go_enter Try.func29, Try.ntmps29
      go_wp2
      go_ret
      exact ⟨rfl, rfl⟩
    · rw [decide_eq_false (show ¬ (0 ≤ s ∧ s < n) from fun h => h2 h.2)]
      go_enter Try.func29, Try.ntmps29
      go_wp2
      go_ret
      exact ⟨rfl, rfl⟩
  · rw [decide_eq_false (show ¬ (0 ≤ s ∧ s < n) from fun h => h1 h.1)]
    go_enter Try.func29, Try.ntmps29
    go_wp2
    go_ret
    exact ⟨rfl, rfl⟩

theorem arr_get (w : World) (b mb : Nat) (size n : Int) (l : List (Int × List Int)) (h : ArrIs w b mb size n l) (s : Int) (h0 : 0 ≤ s) (h1 : s < n) (hs0 : 1 ≤ size) (hs1 : size ≤ 128) (hok : intOk s) :
    Calls Try.prog 17 #[.pointer (some ⟨b, 0, none⟩), .int .i64 s] w fun e w' => e = .returned (.tuple #[.string (strOfNums ((slotOf l s).take size.toNat)), .bool true]) ∧ Below w.heap.size w w' := by
  obtain ⟨hb, hm, hl⟩ := h
  have C1 := hide (arr_none w b size n mb hb)
  have C2 := arr_there w b size n mb hb s
  rw [decide_eq_true (show 0 ≤ s ∧ s < n from ⟨h0, h1⟩)] at C2
  have C3 := hide C2
  clear C2
  have c0 := hb.cell 0
  have c2 := hb.cell 2
  simp at c0 c2
  clear hb
  go_enter Try.func17, Try.ntmps17
  go_wp2_with fail
  refine C1.out.mono ?_
  rintro e w2 ⟨rfl, rfl⟩
  go_wp2_with fail
  refine C3.out.mono ?_
  rintro e w2 ⟨rfl, rfl⟩
  go_wp2_with fail
  have e : (mget (l.map fun p => (p.1, arrVal p.2)) s).getD (arrVal (List.replicate 128 0)) = arrVal (slotOf l s) := get_slot l s
  have hr := run_get int_mkey Try.underlying69 (zero_arr w) hm (a := s) hok false
  rw [show (if false = true then Value.tuple #[(mget (l.map fun p => (p.1, arrVal p.2)) s).getD (arrVal (List.replicate 128 0)), .bool (mget (l.map fun p => (p.1, arrVal p.2)) s).isSome] else (mget (l.map fun p => (p.1, arrVal p.2)) s).getD (arrVal (List.replicate 128 0))) = arrVal (slotOf l s) from e] at hr
  have hr : (Instr.lookup 69 (.map (some mb)) (.int .i64 s) false).run Try.prog w = .ok (arrVal (slotOf l s)) w := hr
  have hlen := slot_length l hl s
  obtain ⟨V, hV⟩ : ∃ V, V = slotOf l s := ⟨_, rfl⟩
  rw [← hV] at hr hlen
  have hV2 := hide hV
  clear hV
  rw [hr]
  clear hr e
  have hz := zero_arr w
  obtain ⟨cs, hcs⟩ : ∃ cs : Array Value, arrVal (List.replicate 128 0) = .agg cs ∧ cs.size = 128 := ⟨_, rfl, by simp⟩
  rw [hcs.1] at hz
  obtain ⟨vs, hvs⟩ : ∃ vs : Array Value, vs = (V.map (Value.int .u8)).toArray := ⟨_, rfl⟩
  have hv : arrVal V = .agg vs := by rw [hvs]; rfl
  rw [hv]
  go_wp2_with fail
  have hsz : vs.size = 128 := by rw [hvs]; simpa using hlen
  have hone : vs.all (·.oneCell') = true := by rw [hvs]; simp [Value.oneCell']
  rw [show List.map (Value.int .u8) V = vs.toList from by rw [hvs]]
  rw [run_storeCells_new w 74 cs vs (by rw [hsz]; kernel_rfl) (by rw [hcs.2, hsz]) hone]
  have D0 : decide (size < 0) = false := decide_eq_false (by omega)
  have D1 : decide (128 < size) = false := decide_eq_false (by omega)
  have D2 : ¬ size < 0 := by omega
  have D3 : ¬ 128 < size := by omega
  have c0b : (w.alloc (.cells vs 74)).cell? ⟨b, 0, none⟩ = some (Value.int IntKind.i64 size) := by
    exact (World.cell?_of_block (Below.heap_alloc w _ b (World.block_lt_of_cell? w _ c0))).trans c0
  have hvs2 := hide hvs
  clear hvs hv hone hz hcs
  have hcell : ∀ i, i < size.toNat → (w.alloc (.cells vs 74)).cell? ⟨w.heap.size, 0 + i, none⟩ = some (.int .u8 ((V.take size.toNat).getD i 0)) := by
    intro i hi
    rw [(Has.new w 74 vs).cell, hvs2.out]
    have hV : i < V.length := by omega
    simp [List.getD, hi, List.getElem?_eq_getElem hV]
  have hcv := run_convert_bytes_arg (P := Try.prog) (w.alloc (.cells vs 74)) 72 5 Try.underlying72 Try.underlying5 w.heap.size 0 size.toNat 128 (V.take size.toNat) (by rw [List.length_take]; omega) hcell 9 Try.underlying9
  clear hcell
  go_wp2_with fail
  go_ret2
  exact ⟨by rw [hV2.out]; rfl, (Below.refl _ w).alloc (Nat.le_refl _) _⟩

/-- A text set into a row of bytes. -/
def putBytes (V : List Int) (a : Nat) (t : ByteArray) : List Int := V.take a ++ t.data.toList.map (fun b => (b.toNat : Int)) ++ V.drop (a + t.size)

theorem putBytes_length (V : List Int) (a : Nat) (t : ByteArray) (h : a + t.size ≤ V.length) : (putBytes V a t).length = V.length := by
  have : t.data.toList.length = t.size := by rw [Array.length_toList]; rfl
  simp [putBytes]
  simp at this
  omega

theorem putBytes_cells (V : List Int) (a : Nat) (t : ByteArray) : ((putBytes V a t).map (Value.int .u8)).toArray = (((V.map (Value.int .u8)).toArray).toList.take a ++ Lib.byteCells t.data.toList ++ ((V.map (Value.int .u8)).toArray).toList.drop (a + t.size)).toArray := by
  simp [putBytes, Lib.byteCells, List.map_take, List.map_drop, Function.comp_def]

theorem mput_map (l : List (Int × List Int)) (s : Int) (v : List Int) : (mput l s v).map (fun p => (p.1, arrVal p.2)) = mput (l.map fun p => (p.1, arrVal p.2)) s (arrVal v) := by
  induction l with
  | nil => rfl
  | cons p l ih =>
    obtain ⟨k, u⟩ := p
    simp only [List.map_cons, mput]
    split
    · rfl
    · simp only [List.map_cons, ih]

theorem arr_write (w : World) (b mb : Nat) (size n : Int) (l : List (Int × List Int)) (h : ArrIs w b mb size n l) (s a : Int) (t : ByteArray) (h0 : 0 ≤ s) (h1 : s < n) (hs0 : 1 ≤ size) (hs1 : size ≤ 128) (hok : intOk s)
    (ha0 : 0 ≤ a) (ha1 : a ≤ size) (ht : (t.size : Int) ≤ size - a) :
    Calls Try.prog 13 #[.pointer (some ⟨b, 0, none⟩), .int .i64 s, .int .i64 a, .string t] w fun e w' => e = .returned (.int .i64 0) ∧ ArrIs w' b mb size n (mput l s (putBytes (slotOf l s) a.toNat t)) ∧ Turned (fun k => k = mb) w w' := by
  obtain ⟨hb, hm, hl⟩ := h
  have C1 := hide (arr_none w b size n mb hb)
  have C2 := arr_there w b size n mb hb s
  rw [decide_eq_true (show 0 ≤ s ∧ s < n from ⟨h0, h1⟩)] at C2
  have C3 := hide C2
  clear C2
  have c0 := hb.cell 0
  have c2 := hb.cell 2
  simp at c0 c2
  have hb2 := hide hb
  clear hb
  have D0 : decide (a < 0) = false := decide_eq_false (by omega)
  have D1 : decide (size < a) = false := decide_eq_false (by omega)
  have D2 : decide (size - a < (t.size : Int)) = false := decide_eq_false (by omega)
  have W1 : IntKind.i64.wrap (size - a) = size - a := wrap_i64 (by omega) (by omega)
  have W2 : IntKind.i64.wrap (t.size : Int) = t.size := wrap_i64 (by omega) (by omega)
  go_enter Try.func13, Try.ntmps13
  go_wp2_with fail
  refine C1.out.mono ?_
  rintro e w2 ⟨rfl, rfl⟩
  go_wp2_with fail
  refine C3.out.mono ?_
  rintro e w2 ⟨rfl, rfl⟩
  go_wp2_with fail
  have e : (mget (l.map fun p => (p.1, arrVal p.2)) s).getD (arrVal (List.replicate 128 0)) = arrVal (slotOf l s) := get_slot l s
  have hr := run_get int_mkey Try.underlying69 (zero_arr w) hm (a := s) hok false
  rw [show (if false = true then Value.tuple #[(mget (l.map fun p => (p.1, arrVal p.2)) s).getD (arrVal (List.replicate 128 0)), .bool (mget (l.map fun p => (p.1, arrVal p.2)) s).isSome] else (mget (l.map fun p => (p.1, arrVal p.2)) s).getD (arrVal (List.replicate 128 0))) = arrVal (slotOf l s) from e] at hr
  have hr : (Instr.lookup 69 (.map (some mb)) (.int .i64 s) false).run Try.prog w = .ok (arrVal (slotOf l s)) w := hr
  have hlen := slot_length l hl s
  obtain ⟨V, hV⟩ : ∃ V, V = slotOf l s := ⟨_, rfl⟩
  rw [← hV] at hr hlen
  have hV2 := hide hV
  clear hV
  rw [hr]
  clear hr e
  have hz := zero_arr w
  obtain ⟨cs, hcs⟩ : ∃ cs : Array Value, arrVal (List.replicate 128 0) = .agg cs ∧ cs.size = 128 := ⟨_, rfl, by simp⟩
  rw [hcs.1] at hz
  obtain ⟨vs, hvs⟩ : ∃ vs : Array Value, vs = (V.map (Value.int .u8)).toArray := ⟨_, rfl⟩
  have hv : arrVal V = .agg vs := by rw [hvs]; rfl
  rw [hv]
  go_wp2_with fail
  have hsz : vs.size = 128 := by rw [hvs]; simpa using hlen
  have hone : vs.all (·.oneCell') = true := by rw [hvs]; simp [Value.oneCell']
  rw [show List.map (Value.int .u8) V = vs.toList from by rw [hvs]]
  rw [run_storeCells_new w 74 cs vs (by rw [hsz]; kernel_rfl) (by rw [hcs.2, hsz]) hone]
  have D4 : decide (128 < a) = false := decide_eq_false (by omega)
  have D5 : a ≤ 128 := by omega
  have hvs2 := hide hvs
  clear hvs hv hone hz hcs
  obtain ⟨us, hus⟩ : ∃ us : Array Value, us = ((putBytes V a.toNat t).map (Value.int .u8)).toArray := ⟨_, rfl⟩
  have husz : us.size = 128 := by rw [hus, List.size_toArray, List.length_map, putBytes_length _ _ _ (by omega), hlen]
  have hc : (¬ 128 = a.toNat ∧ (Builtin.copy_ #[72, 9] 3 #[.slice (some ⟨w.heap.size, a.toNat, none⟩) (128 - a.toNat) (128 - a.toNat), .string t]).run Try.prog (w.alloc (.cells vs 74)) = .ok (goInt t.size) (w.alloc (.cells us 74))) ∨
      (a.toNat = 128 ∧ (Builtin.copy_ #[72, 9] 3 #[.slice (some ⟨w.heap.size, 0, none⟩) 0 0, .string t]).run Try.prog (w.alloc (.cells vs 74)) = .ok (goInt 0) (w.alloc (.cells us 74))) := by
    by_cases hA : 128 = a.toNat
    · refine Or.inr ⟨hA.symm, ?_⟩
      have ht0 : t.size = 0 := by omega
      have ht1 : t.data.toList = [] := List.eq_nil_of_length_eq_zero (by rw [Array.length_toList]; exact ht0)
      have : us = vs := by
        rw [hus, hvs2.out]
        congr 1
        simp [putBytes, ht0, ht1]
      rw [this]
      exact run_copy_empty_string (P := Try.prog) _ 72 9 3 5 _ 0 0 t Try.underlying72 (by kernel_rfl) ht0
    · refine Or.inl ⟨hA, ?_⟩
      have hcopy := run_copy_row_string (P := Try.prog) (w.alloc (.cells vs 74)) 72 9 3 5 w.heap.size a.toNat (128 - a.toNat) (128 - a.toNat) t vs 74 Try.underlying72 (by kernel_rfl) (heap_alloc_last w _) (by omega) (by rw [hsz]; omega)
      rw [World.setRow_alloc_new, hvs2.out, ← putBytes_cells, ← hus, ← hvs2.out] at hcopy
      exact hcopy
  have hus2 := hide hus
  clear hus
  rcases hc with ⟨hA, hcopy⟩ | ⟨hA, hcopy⟩
  all_goals
    go_wp2_with fail
    clear hcopy
    have hb1 := hb2.out.alloc (.cells us 74)
    have hm1 : MapIs (w.alloc (.cells us 74)) mb intKey intOk (l.map fun p => (p.1, arrVal p.2)) := hm.alloc _
    have ht1 : Turned (fun k => k = mb) w (w.alloc (.cells us 74)) := (Turned.refl _ w).alloc _
    refine region_tail 6 (by kernel_rfl) (by kernel_rfl) ?_
    intro wd hwd
    have hload : (Instr.loadAt 74 (.pointer (some ⟨w.heap.size, 0, none⟩))).run Try.prog wd = .ok (.agg us) wd := by
      rw [hwd]
      exact run_loadAt_new (P := Try.prog) w.drew 74 us 128 5 Try.underlying74 (by rw [husz]; kernel_rfl)
    have hload := hide hload
    have c2b : wd.cell? ⟨b, 2, none⟩ = some (.map (some mb)) := by rw [hwd]; exact hb1.cell 2
    have hm1 : MapIs wd mb intKey intOk (l.map fun p => (p.1, arrVal p.2)) := by rw [hwd]; exact hm1
    have ht1 : Turned (fun k => k = mb) w wd := by rw [hwd]; exact ht1.drew
    have hb1 : Has wd b 71 #[.int .i64 size, .int .i64 n, .map (some mb)] := by rw [hwd]; exact hb1
    have hb1 := hide hb1
    generalize hq : w.heap.size = q at *
    clear hwd hq c0 c2 C1 C3
    simp only [List.take_succ_cons, List.take_zero, List.drop_succ_cons, List.drop_zero]
    iterate 5 still_step
    refine still_load _ _ _ _ rfl rfl rfl hload.out ?_
    refine wpStill_nil ?_
    go_wp2_with fail
    obtain ⟨w2, h2, hm2, ht2⟩ := run_put int_mkey Try.underlying69 hm1 (a := s) hok (.agg us)
    have h2 : (Instr.mapUpdate 69 (.map (some mb)) (.int .i64 s) (.agg us)).run Try.prog wd = .ok () w2 := h2
    have hne : b ≠ mb := by
      rintro rfl
      obtain ⟨es, clock, hes, _⟩ := hm1
      have := hb1.out
      unfold Has at this
      rw [this] at hes
      cases hes
    rw [h2]
    go_wp2_with fail
    go_ret
    refine ⟨rfl, ⟨hb1.out.turned ht2 hne, ?_, ?_⟩, ht1.trans ht2⟩
    · rw [← hV2.out, show Value.agg us = arrVal (putBytes V a.toNat t) from by rw [hus2.out]; rfl] at *
      rw [mput_map]
      exact hm2
    · intro p hp
      rcases mput_keys _ _ _ p hp with rfl | hp
      · show (putBytes (slotOf l s) a.toNat t).length = 128
        rw [← hV2.out, putBytes_length _ _ _ (by omega), hlen]
      · exact hl p hp

end Go.Proofs.Ytjfcpajajaigfaa
