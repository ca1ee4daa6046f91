import Derived.Test.YtjhfhognacjipaaLockKeys
import Derived.Test.YtjhfhognacjipaaLockWorks
import Derived.Test.YtjhfhognacjipaaShapes
import Derived.Deep.DeepCutAuto
import Derived.Deep.CutBlock
/-! The law LockOne, walked. -/
namespace Go.Proofs.Ytjhfhognacjipaa
open Go.RowKit Go.Maps
set_option maxHeartbeats 2000000
set_option maxRecDepth 100000

def bit (h : Option (Int × Int)) (q : Int × Int) : Int := if h = some q then 1 else 0
def total (h : Option (Int × Int)) : List ((Int × Int) × Value) → Int
  | [] => 0
  | p :: l => bit h p.1 + total h l

theorem wrap64_in {x : Int} (h0 : 0 ≤ x) (h1 : x < 9223372036854775808) : wrap64 x = x := by
  unfold wrap64
  omega

theorem total_perm {h : Option (Int × Int)} {l m : List ((Int × Int) × Value)} (p : l.Perm m) : total h l = total h m := by
  induction p with
  | nil => rfl
  | cons x _ ih => simp only [total, ih]
  | swap x y l => simp only [total]; omega
  | trans _ _ i1 i2 => rw [i1, i2]

theorem total_zero {h : Option (Int × Int)} {l : List ((Int × Int) × Value)} (hl : ∀ p ∈ l, h ≠ some p.1) : total h l = 0 := by
  induction l with
  | nil => rfl
  | cons p l ih =>
    simp only [total, bit]
    rw [if_neg (hl p (by simp)), ih (fun q hq => hl q (by simp [hq]))]
    omega

theorem total_one {q : Int × Int} {l : List ((Int × Int) × Value)} (hn : (l.map Prod.fst).Nodup) (hq : ∃ p ∈ l, p.1 = q) : total (some q) l = 1 := by
  induction l with
  | nil => obtain ⟨p, hp, _⟩ := hq; cases hp
  | cons p l ih =>
    have hn' := List.nodup_cons.1 hn
    simp only [total, bit]
    by_cases e : p.1 = q
    · subst e
      rw [if_pos rfl, total_zero (fun y hy e => hn'.1 (List.mem_map.2 ⟨y, hy, by simpa using e.symm⟩))]
      omega
    · rw [if_neg (fun h => e (by simpa using h.symm)), ih hn'.2 (by
        obtain ⟨y, hy, rfl⟩ := hq
        rcases List.mem_cons.1 hy with rfl | hy
        · exact absurd rfl e
        · exact ⟨y, hy, rfl⟩)]
      omega

theorem total_nonneg (h : Option (Int × Int)) (l : List ((Int × Int) × Value)) : 0 ≤ total h l := by
  induction l with
  | nil => exact Int.le_refl _
  | cons p l ih =>
    simp only [total, bit]
    split <;> omega

/-- The map says of each lock whether it is the one that is held. -/
def Says (h : Option (Int × Int)) (L : List ((Int × Int) × Value)) : Prop := (∀ p ∈ L, p.2 = .int .i64 (bit h p.1)) ∧ ∀ q, h = some q → ∃ p ∈ L, p.1 = q

theorem Says.put {h h' : Option (Int × Int)} {L : List ((Int × Int) × Value)} (hs : Says h L) (q : Int × Int) (hn : (L.map Prod.fst).Nodup) (hb : ∀ r, r ≠ q → bit h' r = bit h r) (hq : ∀ r, h' = some r → r = q) :
    Says h' (mput L q (.int .i64 (bit h' q))) := by
  refine ⟨fun p hp => ?_, fun r hr => ?_⟩
  · have hnp := mput_nodup L q (.int .i64 (bit h' q)) hn
    have hg := mget_of_mem hnp (a := p.1) (v := p.2) hp
    rw [mget_put] at hg
    by_cases e : q = p.1
    · rw [if_pos e] at hg
      rw [← Option.some.inj hg, e]
    · rw [if_neg e] at hg
      have := hs.1 _ (mget_mem hg)
      rw [this, hb p.1 (fun h => e h.symm)]
  · rw [hq r hr]
    exact ⟨(q, _), mget_mem (by rw [mget_put, if_pos rfl]), rfl⟩

theorem Says.get {h : Option (Int × Int)} {L : List ((Int × Int) × Value)} (hs : Says h L) (q : Int × Int) : (mget L q).getD (.int .i64 0) = .int .i64 (bit h q) := by
  cases hg : mget L q with
  | some v => exact hs.1 _ (mget_mem hg)
  | none =>
    have : h ≠ some q := by
      intro e
      obtain ⟨p, hp, rfl⟩ := hs.2 q e
      have : ∀ L : List ((Int × Int) × Value), p ∈ L → mget L p.1 ≠ none := by
        intro L
        induction L with
        | nil => intro h; cases h
        | cons y l ih =>
          intro h
          obtain ⟨k, u⟩ := y
          unfold mget
          split
          · simp
          · rename_i hne
            rcases List.mem_cons.1 h with rfl | h
            · exact absurd rfl hne
            · exact ih h
      exact this L hp hg
    simp [bit, this]

theorem total_says {h : Option (Int × Int)} {L : List ((Int × Int) × Value)} (hs : Says h L) (hn : (L.map Prod.fst).Nodup) : total h L = if h.isSome then 1 else 0 := by
  cases h with
  | none => exact total_zero (fun p _ => by simp)
  | some q => exact total_one hn (hs.2 q rfl)

theorem LockIs.keep {w w' : World} {b : Nat} {h : Option (Int × Int)} {n : Int} (x : LockIs w b h n) (hk : ∀ g t cs, Has w g t cs → Has w' g t cs) : LockIs w' b h n := by
  cases h with
  | none => exact hk _ _ _ x
  | some q => obtain ⟨c, x, y⟩ := x; exact ⟨c, hk _ _ _ x, hk _ _ _ y⟩
theorem turned_has {w w' : World} {k : Nat} (ht : Turned (fun j => j = k) w w') (hno : ∀ t cs, ¬ Has w k t cs) : ∀ g t cs, Has w g t cs → Has w' g t cs := fun g t cs h =>
  h.turned ht (fun e => hno t cs (by rw [← e]; exact h))
theorem map_no {w : World} {k : Nat} {α : Type} {enc : α → Value} {ok : α → Prop} {l : List (α × Value)} (hm : MapIs w k enc ok l) : ∀ t cs, ¬ Has w k t cs := by
  intro t cs h
  obtain ⟨es, clock, hes, _⟩ := hm
  unfold Has at h
  rw [h] at hes
  cases hes
theorem iter_no {w : World} {it k : Nat} {α : Type} {enc : α → Value} {ok : α → Prop} {l left : List (α × Value)} (hm : RangeAt w it k enc ok l left) : ∀ t cs, ¬ Has w it t cs := by
  intro t cs h
  obtain ⟨_, _, es, clock, since, seen, c0, _, hi, _⟩ := hm
  unfold Has at h
  rw [h] at hi
  cases hi

theorem is_bit (h : Option (Int × Int)) (N : Int) (a b : Int) : ∃ isb : Bool, (∀ (w : World) (lb : Nat), LockIs w lb h N → Calls Try.prog 18 #[.pointer (some ⟨lb, 0, none⟩), .int .i64 a, .int .i64 b] w fun e w' => e = .returned (.bool isb) ∧ w = w') ∧
    (bit h (a, b) = 0 ∧ isb = false ∨ bit h (a, b) = 1 ∧ isb = true) := by
  cases h with
  | none => exact ⟨false, fun w lb hL => lock_is_none w lb a b N hL, Or.inl ⟨if_neg (by simp), rfl⟩⟩
  | some q =>
    obtain ⟨qa, qb⟩ := q
    refine ⟨qa == a && qb == b, fun w lb hL => lock_is_some w lb a b N qa qb hL, ?_⟩
    by_cases e : qa = a ∧ qb = b
    · obtain ⟨rfl, rfl⟩ := e
      exact Or.inr ⟨if_pos rfl, by simp⟩
    · refine Or.inl ⟨if_neg (fun h => e (by simpa using h)), ?_⟩
      simpa using e

theorem held_any (w : World) (lb : Nat) (h : Option (Int × Int)) (N : Int) (hL : LockIs w lb h N) : ∃ x y : Int, Calls Try.prog 16 #[.pointer (some ⟨lb, 0, none⟩)] w fun e w' => e = .returned (.tuple #[.int .i64 x, .int .i64 y, .bool h.isSome]) ∧ ∃ k, w' = w.drewN k := by
  cases h with
  | none => exact ⟨0, 0, (lock_held_none w lb N hL).mono fun e w' ⟨he, hw⟩ => ⟨he, 0, hw.symm⟩⟩
  | some q =>
    obtain ⟨a, b⟩ := q
    exact ⟨a, b, lock_held_some w lb N a b hL⟩

theorem step_entry {wd : World} {m : Nat} {L : List ((Int × Int) × Value)} {h : Option (Int × Int)} (hM : MapIs wd m stepKey stepOk L) (hS : Says h L) (a b : Int) (hq : stepOk (a, b)) (v : Int) :
    ∃ wE t wF, (Instr.lookup 36 (.map (some m)) (.agg #[.bool false, .int .i64 a, .int .i64 b]) false).run Try.prog wd = .ok (.int .i64 (bit h (a, b))) wd ∧
      (Instr.mapEntry 36 (.map (some m)) (.agg #[.bool false, .int .i64 a, .int .i64 b])).run Try.prog wd = .ok (.tuple #[.int .i64 (bit h (a, b)), .int .i64 t]) wE ∧
      (Instr.lookup 36 (.map (some m)) (.agg #[.bool false, .int .i64 a, .int .i64 b]) false).run Try.prog wE = .ok (.int .i64 (bit h (a, b))) wE ∧
      (Instr.entryStore 36 (.map (some m)) (.int .i64 t) (.int .i64 v)).run Try.prog wE = .ok () wF ∧ MapIs wF m stepKey stepOk (mput L (a, b) (.int .i64 v)) ∧
      Turned (fun k => k = m) wd wE ∧ Turned (fun k => k = m) wd wF := by
  have hz : ∀ w, (zeroValue 3).run Try.prog w = .ok (.int .i64 0) w := fun w => by kernel_rfl
  have hT : Try.prog.underlying 36 = some (.map 27 3) := Try.underlying36
  have h1 := run_get step_mkey hT (hz wd) hM (a := (a, b)) hq false
  obtain ⟨wE, t, h2, ht, _, h3⟩ := run_entry step_mkey hT hz hM (a := (a, b)) hq
  have hE := mapEntry_has step_mkey hT hz hM (a := (a, b)) hq h2
  have h4 := run_get step_mkey hT (hz wE) hE (a := (a, b)) hq false
  obtain ⟨wF, h5, h6, h7⟩ := h3 wE rfl (.int .i64 v)
  rw [hS.get] at h2
  rw [mget_put, if_pos rfl] at h4
  simp only [Option.getD_some, hS.get] at h1 h4
  exact ⟨wE, t, wF, h1, h2, h4, h5, h6, ht, ht.trans h7⟩

theorem lock_one_walk (w : World) (A : Option Addr) (n c : Nat) (l : List S27) (hl : l.length = n) (_ : n ≤ 9223372036854775807) (hs : SliceOf w A 3 (l.map S27.cells))
    (hok : ∀ x ∈ l, x.ok) :
    Calls Try.prog 4 #[.slice A n c] w fun e w' => e = .returned (.bool true) ∧ Below w.heap.size w w' := by
  by_cases h200 : 200 < n
  · have hd : decide ((200 : Int) < n) = true := by simp; omega
    clear hl hs hok
    go_enter Try.func4, Try.ntmps4
    go_wp2_with fail
    refine (lock_works _).mono ?_
    rintro e w1 ⟨rfl, hb⟩
    go_wp2
    go_ret
    exact ⟨rfl, hb⟩
  · have hd : decide ((200 : Int) < n) = false := by simp; omega
    have HL := hide hl
    have HS := hide hs
    have HO := hide hok
    clear hl hs hok
    go_enter Try.func4, Try.ntmps4
    go_wp2_with fail
    refine (lock_new _).mono ?_
    rintro e w1 ⟨rfl, h1, hw1⟩
    have t1 : Below w.heap.size w w1 := by rw [hw1]; exact (Below.refl _ w).alloc (Nat.le_refl _) _
    have s1 : w1.heap.size = w.heap.size + 1 := by rw [hw1]; simp
    have H1 := hide h1
    have T1 := hide t1
    clear hw1 h1 t1
    generalize hlb : w.heap.size = lb at *
    go_wp2_with fail
    rw [run_makeMap]
    have hM0 := MapIs.made w1 stepKey stepOk
    have hL1 := H1.out.alloc (.map #[] 0)
    have hB1 := T1.out.alloc (by omega) (.map #[] 0)
    generalize hmo : w1.heap.size = mo at *
    generalize w1.alloc (.map #[] 0) = w2 at *
    have HM0 := hide hM0
    have HL1 := hide hL1
    have HB1 := hide hB1
    clear hM0 hL1 hB1 H1 T1
    subst s1
    go_wp2_with fail
    go_loopw [5] (fun v5 wr => ∃ (k : Nat) (h : Option (Int × Int)) (N : Int) (L : List ((Int × Int) × Value)), k ≤ n ∧ v5 = .int .i64 k ∧ LockIs wr lb h N ∧ MapIs wr (lb + 1) stepKey stepOk L ∧ Says h L ∧ Below lb w wr) (fun i _ => n - (intOf i).toNat)
    case atStart => exact ⟨0, none, 0, [], Nat.zero_le _, rfl, HL1.out, HM0.out, ⟨fun p hp => (by cases hp), fun q hq => (by cases hq)⟩, HB1.out⟩
    case round =>
      obtain ⟨k, h, N, L, hk, rfl, hL, hM, hSay, hB⟩ := hrel
      by_cases hlt : k < n
      · obtain ⟨x, hx⟩ : ∃ x, l[k]? = some x := ⟨_, List.getElem?_eq_getElem (by rw [HL.out]; exact hlt)⟩
        have hxo := HO.out x (List.mem_of_getElem? hx)
        obtain ⟨b, off, rfl, hb, hc⟩ := HS.out.at_ (by rw [hlb]; exact hB) (i := k) (cs := x.cells) (by rw [List.getElem?_map, hx]; rfl)
        obtain ⟨gx, mx, sx⟩ := x
        have e0 : wr.cell? ⟨b, off + k * 3, none⟩ = some (.bool gx) := hc 0 _ rfl
        have e1 : wr.cell? ⟨b, off + k * 3 + 1, none⟩ = some (.int .i64 mx) := hc 1 _ rfl
        have e2 : wr.cell? ⟨b, off + k * 3 + 2, none⟩ = some (.int .i64 sx) := hc 2 _ rfl
        have hq : stepOk (mx, sx) := hxo
        have HQ := hide hq
        have HX := hide hx
        have hLM : lb < wr.heap.size ∧ lb + 1 < wr.heap.size := ⟨hL.lt, hM.lt⟩
        have HLL := hide hL
        have HMM := hide hM
        have HSay := hide hSay
        have HB := hide hB
        clear hc hx hxo hq hL hM hSay hB
        go_wp2_with fail
        go_region_held3 (fun w' => w'.cell? ⟨b, off + k * 3, none⟩ = some (.bool gx) ∧ w'.cell? ⟨b, off + k * 3 + 1, none⟩ = some (.int .i64 mx) ∧ w'.cell? ⟨b, off + k * 3 + 2, none⟩ = some (.int .i64 sx)) (go_keep) (fail)
        have hC3 : Has (wr.alloc (.cells #[.bool false, .int .i64 mx, .int .i64 sx] 27)).drew wr.heap.size 27 #[.bool false, .int .i64 mx, .int .i64 sx] := Has.new wr _ _
        have hL3 : LockIs (wr.alloc (.cells #[.bool false, .int .i64 mx, .int .i64 sx] 27)).drew lb h N := (HLL.out.alloc _).drewN 1
        have hM3 : MapIs (wr.alloc (.cells #[.bool false, .int .i64 mx, .int .i64 sx] 27)).drew (lb + 1) stepKey stepOk L := HMM.out.alloc _
        have hB3 : Below lb w (wr.alloc (.cells #[.bool false, .int .i64 mx, .int .i64 sx] 27)).drew := (HB.out.alloc (by omega) _).drew
        have e3 : (wr.alloc (.cells #[.bool false, .int .i64 mx, .int .i64 sx] 27)).drew.cell? ⟨b, off + k * 3, none⟩ = some (.bool gx) :=
          (World.cell?_of_block (Below.heap_alloc wr _ b (World.block_lt_of_cell? wr _ e0))).trans e0
        generalize (wr.alloc (.cells #[.bool false, .int .i64 mx, .int .i64 sx] 27)).drew = W3 at *
        have hcq1 : ¬ wr.heap.size = lb := by omega
        have hcq2 : ¬ wr.heap.size = lb + 1 := by omega
        clear e0 e1 e2 HLL HMM HB hLM
        generalize wr.heap.size = cq at *
        have c1 := hC3.cell 1
        have c2 := hC3.cell 2
        simp at c1 c2
        have HC3 := hide hC3
        have HL3 := hide hL3
        have HM3 := hide hM3
        have HB3 := hide hB3
        clear hC3 hL3 hM3 hB3
        cases gx with
        | true =>
          cases h with
          | none =>
            go_wp2_with fail
            refine (lock_give_none W3 lb mx sx N HL3.out).mono ?_
            rintro e w4 ⟨rfl, rfl⟩
            go_wp2_with fail
            obtain ⟨h5, N5, L5, hP⟩ : ∃ h5 N5 L5, Hid (LockIs W3 lb h5 N5 ∧ MapIs W3 (lb + 1) stepKey stepOk L5 ∧ Says h5 L5 ∧ Below lb w W3) := ⟨none, N, L, HL3.out, HM3.out, HSay.out, HB3.out⟩
            clear HL3 HM3 HB3 HSay HC3
            obtain ⟨W6, hr, hR6, ht6, hs6⟩ := run_range Try.underlying36 hP.out.2.1
            rw [hr]
            clear hr
            obtain ⟨it, hit⟩ : ∃ it, it = W3.heap.size := ⟨_, rfl⟩
            rw [← hit] at hR6 hs6 ⊢
            have hl1 : lb < it := by rw [hit]; exact hP.out.1.lt
            have hl2 : lb + 1 < it := by rw [hit]; exact hP.out.2.1.lt
            have hL6 : LockIs W6 lb h5 N5 := hP.out.1.keep (fun g t cs h => h.turned ht6 (fun e => e))
            have hB6 : Below lb w W6 := hP.out.2.2.2.trans (ht6.below (by omega) (fun j hj => hj.elim))
            have HR6 := hide hR6
            have HL6 := hide hL6
            have HB6 := hide hB6
            have HS := hide hP.out.2.2.1
            clear hR6 hL6 hB6 ht6 hP hit
            go_wp2_with fail
            go_loopw [7] (fun v7 wr => ∃ (acc : Int) (left : List ((Int × Int) × Value)), v7 = .int .i64 acc ∧ 0 ≤ acc ∧ acc + total h5 left = total h5 L5 ∧ 0 ≤ total h5 left ∧ RangeAt wr it (lb + 1) stepKey stepOk L5 left ∧ LockIs wr lb h5 N5 ∧ Below lb w wr) (fun _ wr => iterLeft wr it)
            case atStart => exact ⟨0, L5, rfl, by omega, by omega, total_nonneg _ _, HR6.out, HL6.out, HB6.out⟩
            case round =>
              obtain ⟨acc, left, rfl, hacc, htot, hnn, hR, hL7, hB7⟩ := hrel
              rcases run_next (P := Try.prog) 0 hR with ⟨hnil, hrun⟩ | ⟨a, v, left', w8, hmem, hperm, hrun, hentry, hR', ht'⟩
              · subst hnil
                have HL7 := hide hL7
                have HB7 := hide hB7
                have hone : total h5 L5 = if h5.isSome then 1 else 0 := total_says HS.out (hR.map.nodup)
                have HM7 := hide hR.map
                clear hL7 hB7 hR
                go_wp2_with fail
                obtain ⟨hx, hy, hheld⟩ := held_any wr lb h5 N5 HL7.out
                refine hheld.mono ?_
                rintro e w9 ⟨rfl, kd, rfl⟩
                have hacc2 : acc = if h5.isSome then 1 else 0 := by
                  rw [← hone, ← htot]
                  simp [total]
                clear hheld hone htot hnn hrun
                rcases Bool.eq_false_or_eq_true h5.isSome with hsm | hsm
                all_goals
                  rw [hsm] at hacc2 ⊢
                  simp only [if_true, Bool.false_eq_true, if_false] at hacc2
                  subst hacc2
                  go_wp2_with fail
                  exact ⟨⟨k + 1, h5, N5, L5, by omega, by simp, HL7.out.drewN _, HM7.out.drewN _, HS.out, Below.drewN_ HB7.out _⟩, by simp [intOf]; omega⟩
              · obtain ⟨am, as_⟩ := a
                obtain rfl : v = .int .i64 (bit h5 (am, as_)) := HS.out.1 _ hmem
                have hcount := hR.count
                have hcount' := hR'.count
                have hlen := hperm.length_eq
                have htp := total_perm (h := h5) hperm
                have hL8 : LockIs w8 lb h5 N5 := hL7.keep (turned_has ht' (iter_no hR))
                have hB8 : Below lb w w8 := hB7.trans (ht'.below (by have := hB7.size; omega) (fun j hj => by omega))
                have hen := hentry w8 rfl rfl
                change (Instr.next _ _ _).run _ _ = .ok (.tuple #[.bool true, .agg #[.bool false, .int .i64 am, .int .i64 as_], .int .i64 (bit h5 (am, as_))]) w8 at hrun
                change (Instr.entry _).run _ _ = .ok (.tuple #[.agg #[.bool false, .int .i64 am, .int .i64 as_], .int .i64 (bit h5 (am, as_))]) w8 at hen
                obtain ⟨isb, hisc, hib⟩ := is_bit h5 N5 am as_
                have hL9 : LockIs (w8.alloc (.cells #[.bool false, .int .i64 am, .int .i64 as_] 27)) lb h5 N5 := hL8.alloc _
                have hR9 : RangeAt (w8.alloc (.cells #[.bool false, .int .i64 am, .int .i64 as_] 27)) it (lb + 1) stepKey stepOk L5 left' := hR'.kept (Below.heap_alloc _ _ _ hR'.map.lt) (Below.heap_alloc _ _ _ hR'.lt)
                have hB9 : Below lb w (w8.alloc (.cells #[.bool false, .int .i64 am, .int .i64 as_] 27)) := hB8.alloc (by have := hR'.lt; omega) _
                have HL9 := hide hL9
                have HR9 := hide hR9
                have HB9 := hide hB9
                have Hisc := hide hisc
                have hcount9 := hR9.count
                have hnn' := total_nonneg h5 left'
                have hone : total h5 L5 = if h5.isSome then 1 else 0 := total_says HS.out (hR.map.nodup)
                have hone1 : total h5 L5 ≤ 1 := by rw [hone]; split <;> omega
                simp only [total] at htp
                have HM := hide (And.intro hcount (And.intro hcount9 (And.intro hlen (And.intro htp (And.intro htot (And.intro hacc (And.intro hnn' hone1)))))))
                clear hentry hL8 hL9 hR9 hB9 hB8 hR' ht' hL7 hB7 hR hmem hperm hcount hcount' hcount9 hlen htp htot hacc hnn hnn' hisc hone hone1
                rcases hib with ⟨hm0, rfl⟩ | ⟨hm0, rfl⟩
                all_goals
                  rw [hm0] at hrun hen HM
                  go_wp2_with fail
                  refine (Hisc.out _ lb HL9.out).mono ?_
                  rintro e w9 ⟨rfl, rfl⟩
                  go_wp2_with fail
                  obtain ⟨m1, m2, m3, m4, m5, m6, m7, m8⟩ := HM.out
                  refine ⟨⟨_, left', rfl, ?_, ?_, m7, HR9.out, HL9.out, HB9.out⟩, by rw [m2, m1, m3]; simp⟩
                  all_goals
                    first
                      | (rw [wrap64_in (by omega) (by omega)]; omega)
          | some q =>
            obtain ⟨qm, qs⟩ := q
            by_cases hqq : (qm == mx && qs == sx) = true
            · have hq1 : qm = mx ∧ qs = sx := by simpa using hqq
              obtain ⟨rfl, rfl⟩ := hq1
              go_wp2_with fail
              refine (lock_give_some W3 lb qm qs N HL3.out).mono ?_
              rintro e w4 ⟨rfl, hL4, ht4⟩
              have hC4 := HC3.out.turned ht4 hcq1
              have hM4 : MapIs w4.drew (lb + 1) stepKey stepOk L := HM3.out.turned ht4.drew (by unfold LockMay; omega)
              obtain ⟨wE, t, wF, k1, k2, k3, k4, hMF, htE, htF⟩ := step_entry hM4 HSay.out qm qs HQ.out 0
              have hbit : bit (some (qm, qs)) (qm, qs) = 1 := if_pos rfl
              have hw0 : IntKind.i64.wrap 0 = 0 := rfl
              rw [hbit] at k1 k2 k3
              have hC4 : Has w4.drew cq 27 #[.bool false, .int .i64 qm, .int .i64 qs] := hC4
              have g0 := hC4.cell 0
              have g1 := hC4.cell 1
              have g2 := hC4.cell 2
              simp at g0 g1 g2
              have f0 : wE.cell? ⟨cq, 0, none⟩ = some (.bool false) := htE.cell g0 hcq2
              have f1 : wE.cell? ⟨cq, 1, none⟩ = some (.int .i64 qm) := htE.cell g1 hcq2
              have f2 : wE.cell? ⟨cq, 2, none⟩ = some (.int .i64 qs) := htE.cell g2 hcq2
              have f3 : wF.cell? ⟨cq, 0, none⟩ = some (.bool false) := htF.cell g0 hcq2
              have f4 : wF.cell? ⟨cq, 1, none⟩ = some (.int .i64 qm) := htF.cell g1 hcq2
              have f5 : wF.cell? ⟨cq, 2, none⟩ = some (.int .i64 qs) := htF.cell g2 hcq2
              have hLF : LockIs wF lb none (IntKind.u64.wrap (N + 1)) := (hL4.drewN 1).keep (turned_has htF (map_no hM4))
              have hBF : Below lb w wF := HB3.out.trans ((ht4.drew.below (by have := HB3.out.size; omega) (fun j hj => by unfold LockMay at hj; omega)).trans (htF.below (by have := HB3.out.size; have := ht4.size; simp; omega) (fun j hj => by omega)))
              have hSF : Says none (mput L (qm, qs) (.int .i64 (bit none (qm, qs)))) := HSay.out.put (qm, qs) HM3.out.nodup (fun r hr => by unfold bit; rw [if_neg (by simp), if_neg (by simpa using fun e => hr e.symm)]) (fun r hr => by cases hr)
              have HF := hide (And.intro hLF (And.intro hMF (And.intro hSF hBF)))
              clear hLF hMF hSF hBF
              go_wp2_with fail
              go_region_held3 (fun w' => w'.cell? ⟨cq, 0, none⟩ = some (.bool false) ∧ w'.cell? ⟨cq, 1, none⟩ = some (.int .i64 qm) ∧ w'.cell? ⟨cq, 2, none⟩ = some (.int .i64 qs)) (go_keep) (fail)
              all_goals
                clear k1 k2 k3 k4 htE htF hM4 ht4 hL4 hC4 g0 g1 g2 f0 f1 f2 f3 f4 f5 hbit hw0
                go_wp2_with fail
                obtain ⟨h5, N5, L5, hP⟩ : ∃ h5 N5 L5, Hid (LockIs wF lb h5 N5 ∧ MapIs wF (lb + 1) stepKey stepOk L5 ∧ Says h5 L5 ∧ Below lb w wF) := ⟨none, _, _, HF.out⟩
                clear HL3 HM3 HB3 HSay HC3
                obtain ⟨W6, hr, hR6, ht6, hs6⟩ := run_range Try.underlying36 hP.out.2.1
                rw [hr]
                clear hr
                obtain ⟨it, hit⟩ : ∃ it, it = wF.heap.size := ⟨_, rfl⟩
                rw [← hit] at hR6 hs6 ⊢
                have hl1 : lb < it := by rw [hit]; exact hP.out.1.lt
                have hl2 : lb + 1 < it := by rw [hit]; exact hP.out.2.1.lt
                have hL6 : LockIs W6 lb h5 N5 := hP.out.1.keep (fun g t cs h => h.turned ht6 (fun e => e))
                have hB6 : Below lb w W6 := hP.out.2.2.2.trans (ht6.below (by omega) (fun j hj => hj.elim))
                have HR6 := hide hR6
                have HL6 := hide hL6
                have HB6 := hide hB6
                have HS := hide hP.out.2.2.1
                clear hR6 hL6 hB6 ht6 hP hit
                go_wp2_with fail
                go_loopw [7] (fun v7 wr => ∃ (acc : Int) (left : List ((Int × Int) × Value)), v7 = .int .i64 acc ∧ 0 ≤ acc ∧ acc + total h5 left = total h5 L5 ∧ 0 ≤ total h5 left ∧ RangeAt wr it (lb + 1) stepKey stepOk L5 left ∧ LockIs wr lb h5 N5 ∧ Below lb w wr) (fun _ wr => iterLeft wr it)
                case atStart => exact ⟨0, L5, rfl, by omega, by omega, total_nonneg _ _, HR6.out, HL6.out, HB6.out⟩
                case round =>
                  obtain ⟨acc, left, rfl, hacc, htot, hnn, hR, hL7, hB7⟩ := hrel
                  rcases run_next (P := Try.prog) 0 hR with ⟨hnil, hrun⟩ | ⟨a, v, left', w8, hmem, hperm, hrun, hentry, hR', ht'⟩
                  · subst hnil
                    have HL7 := hide hL7
                    have HB7 := hide hB7
                    have hone : total h5 L5 = if h5.isSome then 1 else 0 := total_says HS.out (hR.map.nodup)
                    have HM7 := hide hR.map
                    clear hL7 hB7 hR
                    go_wp2_with fail
                    obtain ⟨hx, hy, hheld⟩ := held_any wr lb h5 N5 HL7.out
                    refine hheld.mono ?_
                    rintro e w9 ⟨rfl, kd, rfl⟩
                    have hacc2 : acc = if h5.isSome then 1 else 0 := by
                      rw [← hone, ← htot]
                      simp [total]
                    clear hheld hone htot hnn hrun
                    rcases Bool.eq_false_or_eq_true h5.isSome with hsm | hsm
                    all_goals
                      rw [hsm] at hacc2 ⊢
                      simp only [if_true, Bool.false_eq_true, if_false] at hacc2
                      subst hacc2
                      go_wp2_with fail
                      exact ⟨⟨k + 1, h5, N5, L5, by omega, by simp, HL7.out.drewN _, HM7.out.drewN _, HS.out, Below.drewN_ HB7.out _⟩, by simp [intOf]; omega⟩
                  · obtain ⟨am, as_⟩ := a
                    obtain rfl : v = .int .i64 (bit h5 (am, as_)) := HS.out.1 _ hmem
                    have hcount := hR.count
                    have hcount' := hR'.count
                    have hlen := hperm.length_eq
                    have htp := total_perm (h := h5) hperm
                    have hL8 : LockIs w8 lb h5 N5 := hL7.keep (turned_has ht' (iter_no hR))
                    have hB8 : Below lb w w8 := hB7.trans (ht'.below (by have := hB7.size; omega) (fun j hj => by omega))
                    have hen := hentry w8 rfl rfl
                    change (Instr.next _ _ _).run _ _ = .ok (.tuple #[.bool true, .agg #[.bool false, .int .i64 am, .int .i64 as_], .int .i64 (bit h5 (am, as_))]) w8 at hrun
                    change (Instr.entry _).run _ _ = .ok (.tuple #[.agg #[.bool false, .int .i64 am, .int .i64 as_], .int .i64 (bit h5 (am, as_))]) w8 at hen
                    obtain ⟨isb, hisc, hib⟩ := is_bit h5 N5 am as_
                    have hL9 : LockIs (w8.alloc (.cells #[.bool false, .int .i64 am, .int .i64 as_] 27)) lb h5 N5 := hL8.alloc _
                    have hR9 : RangeAt (w8.alloc (.cells #[.bool false, .int .i64 am, .int .i64 as_] 27)) it (lb + 1) stepKey stepOk L5 left' := hR'.kept (Below.heap_alloc _ _ _ hR'.map.lt) (Below.heap_alloc _ _ _ hR'.lt)
                    have hB9 : Below lb w (w8.alloc (.cells #[.bool false, .int .i64 am, .int .i64 as_] 27)) := hB8.alloc (by have := hR'.lt; omega) _
                    have HL9 := hide hL9
                    have HR9 := hide hR9
                    have HB9 := hide hB9
                    have Hisc := hide hisc
                    have hcount9 := hR9.count
                    have hnn' := total_nonneg h5 left'
                    have hone : total h5 L5 = if h5.isSome then 1 else 0 := total_says HS.out (hR.map.nodup)
                    have hone1 : total h5 L5 ≤ 1 := by rw [hone]; split <;> omega
                    simp only [total] at htp
                    have HM := hide (And.intro hcount (And.intro hcount9 (And.intro hlen (And.intro htp (And.intro htot (And.intro hacc (And.intro hnn' hone1)))))))
                    clear hentry hL8 hL9 hR9 hB9 hB8 hR' ht' hL7 hB7 hR hmem hperm hcount hcount' hcount9 hlen htp htot hacc hnn hnn' hisc hone hone1
                    rcases hib with ⟨hm0, rfl⟩ | ⟨hm0, rfl⟩
                    all_goals
                      rw [hm0] at hrun hen HM
                      go_wp2_with fail
                      refine (Hisc.out _ lb HL9.out).mono ?_
                      rintro e w9 ⟨rfl, rfl⟩
                      go_wp2_with fail
                      obtain ⟨m1, m2, m3, m4, m5, m6, m7, m8⟩ := HM.out
                      refine ⟨⟨_, left', rfl, ?_, ?_, m7, HR9.out, HL9.out, HB9.out⟩, by rw [m2, m1, m3]; simp⟩
                      all_goals
                        first
                          | (rw [wrap64_in (by omega) (by omega)]; omega)
            · go_wp2_with fail
              refine (lock_give_other W3 lb mx sx N qm qs HL3.out (by simpa using hqq)).mono ?_
              rintro e w4 ⟨rfl, rfl⟩
              go_wp2_with fail
              obtain ⟨h5, N5, L5, hP⟩ : ∃ h5 N5 L5, Hid (LockIs W3 lb h5 N5 ∧ MapIs W3 (lb + 1) stepKey stepOk L5 ∧ Says h5 L5 ∧ Below lb w W3) := ⟨some (qm, qs), N, L, HL3.out, HM3.out, HSay.out, HB3.out⟩
              clear HL3 HM3 HB3 HSay HC3
              obtain ⟨W6, hr, hR6, ht6, hs6⟩ := run_range Try.underlying36 hP.out.2.1
              rw [hr]
              clear hr
              obtain ⟨it, hit⟩ : ∃ it, it = W3.heap.size := ⟨_, rfl⟩
              rw [← hit] at hR6 hs6 ⊢
              have hl1 : lb < it := by rw [hit]; exact hP.out.1.lt
              have hl2 : lb + 1 < it := by rw [hit]; exact hP.out.2.1.lt
              have hL6 : LockIs W6 lb h5 N5 := hP.out.1.keep (fun g t cs h => h.turned ht6 (fun e => e))
              have hB6 : Below lb w W6 := hP.out.2.2.2.trans (ht6.below (by omega) (fun j hj => hj.elim))
              have HR6 := hide hR6
              have HL6 := hide hL6
              have HB6 := hide hB6
              have HS := hide hP.out.2.2.1
              clear hR6 hL6 hB6 ht6 hP hit
              go_wp2_with fail
              go_loopw [7] (fun v7 wr => ∃ (acc : Int) (left : List ((Int × Int) × Value)), v7 = .int .i64 acc ∧ 0 ≤ acc ∧ acc + total h5 left = total h5 L5 ∧ 0 ≤ total h5 left ∧ RangeAt wr it (lb + 1) stepKey stepOk L5 left ∧ LockIs wr lb h5 N5 ∧ Below lb w wr) (fun _ wr => iterLeft wr it)
              case atStart => exact ⟨0, L5, rfl, by omega, by omega, total_nonneg _ _, HR6.out, HL6.out, HB6.out⟩
              case round =>
                obtain ⟨acc, left, rfl, hacc, htot, hnn, hR, hL7, hB7⟩ := hrel
                rcases run_next (P := Try.prog) 0 hR with ⟨hnil, hrun⟩ | ⟨a, v, left', w8, hmem, hperm, hrun, hentry, hR', ht'⟩
                · subst hnil
                  have HL7 := hide hL7
                  have HB7 := hide hB7
                  have hone : total h5 L5 = if h5.isSome then 1 else 0 := total_says HS.out (hR.map.nodup)
                  have HM7 := hide hR.map
                  clear hL7 hB7 hR
                  go_wp2_with fail
                  obtain ⟨hx, hy, hheld⟩ := held_any wr lb h5 N5 HL7.out
                  refine hheld.mono ?_
                  rintro e w9 ⟨rfl, kd, rfl⟩
                  have hacc2 : acc = if h5.isSome then 1 else 0 := by
                    rw [← hone, ← htot]
                    simp [total]
                  clear hheld hone htot hnn hrun
                  rcases Bool.eq_false_or_eq_true h5.isSome with hsm | hsm
                  all_goals
                    rw [hsm] at hacc2 ⊢
                    simp only [if_true, Bool.false_eq_true, if_false] at hacc2
                    subst hacc2
                    go_wp2_with fail
                    exact ⟨⟨k + 1, h5, N5, L5, by omega, by simp, HL7.out.drewN _, HM7.out.drewN _, HS.out, Below.drewN_ HB7.out _⟩, by simp [intOf]; omega⟩
                · obtain ⟨am, as_⟩ := a
                  obtain rfl : v = .int .i64 (bit h5 (am, as_)) := HS.out.1 _ hmem
                  have hcount := hR.count
                  have hcount' := hR'.count
                  have hlen := hperm.length_eq
                  have htp := total_perm (h := h5) hperm
                  have hL8 : LockIs w8 lb h5 N5 := hL7.keep (turned_has ht' (iter_no hR))
                  have hB8 : Below lb w w8 := hB7.trans (ht'.below (by have := hB7.size; omega) (fun j hj => by omega))
                  have hen := hentry w8 rfl rfl
                  change (Instr.next _ _ _).run _ _ = .ok (.tuple #[.bool true, .agg #[.bool false, .int .i64 am, .int .i64 as_], .int .i64 (bit h5 (am, as_))]) w8 at hrun
                  change (Instr.entry _).run _ _ = .ok (.tuple #[.agg #[.bool false, .int .i64 am, .int .i64 as_], .int .i64 (bit h5 (am, as_))]) w8 at hen
                  obtain ⟨isb, hisc, hib⟩ := is_bit h5 N5 am as_
                  have hL9 : LockIs (w8.alloc (.cells #[.bool false, .int .i64 am, .int .i64 as_] 27)) lb h5 N5 := hL8.alloc _
                  have hR9 : RangeAt (w8.alloc (.cells #[.bool false, .int .i64 am, .int .i64 as_] 27)) it (lb + 1) stepKey stepOk L5 left' := hR'.kept (Below.heap_alloc _ _ _ hR'.map.lt) (Below.heap_alloc _ _ _ hR'.lt)
                  have hB9 : Below lb w (w8.alloc (.cells #[.bool false, .int .i64 am, .int .i64 as_] 27)) := hB8.alloc (by have := hR'.lt; omega) _
                  have HL9 := hide hL9
                  have HR9 := hide hR9
                  have HB9 := hide hB9
                  have Hisc := hide hisc
                  have hcount9 := hR9.count
                  have hnn' := total_nonneg h5 left'
                  have hone : total h5 L5 = if h5.isSome then 1 else 0 := total_says HS.out (hR.map.nodup)
                  have hone1 : total h5 L5 ≤ 1 := by rw [hone]; split <;> omega
                  simp only [total] at htp
                  have HM := hide (And.intro hcount (And.intro hcount9 (And.intro hlen (And.intro htp (And.intro htot (And.intro hacc (And.intro hnn' hone1)))))))
                  clear hentry hL8 hL9 hR9 hB9 hB8 hR' ht' hL7 hB7 hR hmem hperm hcount hcount' hcount9 hlen htp htot hacc hnn hnn' hisc hone hone1
                  rcases hib with ⟨hm0, rfl⟩ | ⟨hm0, rfl⟩
                  all_goals
                    rw [hm0] at hrun hen HM
                    go_wp2_with fail
                    refine (Hisc.out _ lb HL9.out).mono ?_
                    rintro e w9 ⟨rfl, rfl⟩
                    go_wp2_with fail
                    obtain ⟨m1, m2, m3, m4, m5, m6, m7, m8⟩ := HM.out
                    refine ⟨⟨_, left', rfl, ?_, ?_, m7, HR9.out, HL9.out, HB9.out⟩, by rw [m2, m1, m3]; simp⟩
                    all_goals
                      first
                        | (rw [wrap64_in (by omega) (by omega)]; omega)
        | false =>
          cases h with
          | none =>
            go_wp2_with fail
            refine (lock_take_none W3 lb mx sx N HL3.out).mono ?_
            rintro e w4 ⟨rfl, hL4, ht4⟩
            have hC4 := HC3.out.turned ht4 hcq1
            have hM4 : MapIs w4.drew (lb + 1) stepKey stepOk L := HM3.out.turned ht4.drew (by unfold LockMay; omega)
            obtain ⟨wE, t, wF, k1, k2, k3, k4, hMF, htE, htF⟩ := step_entry hM4 HSay.out mx sx HQ.out 1
            have hbit : bit none (mx, sx) = 0 := if_neg (by simp)
            have hw0 : IntKind.i64.wrap 1 = 1 := rfl
            rw [hbit] at k1 k2 k3
            have hC4 : Has w4.drew cq 27 #[.bool false, .int .i64 mx, .int .i64 sx] := hC4
            have g0 := hC4.cell 0
            have g1 := hC4.cell 1
            have g2 := hC4.cell 2
            simp at g0 g1 g2
            have f0 : wE.cell? ⟨cq, 0, none⟩ = some (.bool false) := htE.cell g0 hcq2
            have f1 : wE.cell? ⟨cq, 1, none⟩ = some (.int .i64 mx) := htE.cell g1 hcq2
            have f2 : wE.cell? ⟨cq, 2, none⟩ = some (.int .i64 sx) := htE.cell g2 hcq2
            have f3 : wF.cell? ⟨cq, 0, none⟩ = some (.bool false) := htF.cell g0 hcq2
            have f4 : wF.cell? ⟨cq, 1, none⟩ = some (.int .i64 mx) := htF.cell g1 hcq2
            have f5 : wF.cell? ⟨cq, 2, none⟩ = some (.int .i64 sx) := htF.cell g2 hcq2
            have hLF : LockIs wF lb (some (mx, sx)) N := (hL4.drewN 1).keep (turned_has htF (map_no hM4))
            have hBF : Below lb w wF := HB3.out.trans ((ht4.drew.below (by have := HB3.out.size; omega) (fun j hj => by unfold LockMay at hj; omega)).trans (htF.below (by have := HB3.out.size; have := ht4.size; simp; omega) (fun j hj => by omega)))
            have hSF : Says (some (mx, sx)) (mput L (mx, sx) (.int .i64 (bit (some (mx, sx)) (mx, sx)))) := HSay.out.put (mx, sx) HM3.out.nodup (fun r hr => by unfold bit; rw [if_neg (by simpa using fun e => hr e.symm), if_neg (by simp)]) (fun r hr => by cases hr; rfl)
            have hb1 : bit (some (mx, sx)) (mx, sx) = 1 := if_pos rfl
            rw [hb1] at hSF
            clear hb1
            have HF := hide (And.intro hLF (And.intro hMF (And.intro hSF hBF)))
            clear hLF hMF hSF hBF
            go_wp2_with fail
            go_region_held3 (fun w' => w'.cell? ⟨cq, 0, none⟩ = some (.bool false) ∧ w'.cell? ⟨cq, 1, none⟩ = some (.int .i64 mx) ∧ w'.cell? ⟨cq, 2, none⟩ = some (.int .i64 sx)) (go_keep) (fail)
            all_goals
              clear k1 k2 k3 k4 htE htF hM4 ht4 hL4 hC4 g0 g1 g2 f0 f1 f2 f3 f4 f5 hbit hw0
              go_wp2_with fail
              obtain ⟨h5, N5, L5, hP⟩ : ∃ h5 N5 L5, Hid (LockIs wF lb h5 N5 ∧ MapIs wF (lb + 1) stepKey stepOk L5 ∧ Says h5 L5 ∧ Below lb w wF) := ⟨some (mx, sx), N, _, HF.out⟩
              clear HL3 HM3 HB3 HSay HC3
              obtain ⟨W6, hr, hR6, ht6, hs6⟩ := run_range Try.underlying36 hP.out.2.1
              rw [hr]
              clear hr
              obtain ⟨it, hit⟩ : ∃ it, it = wF.heap.size := ⟨_, rfl⟩
              rw [← hit] at hR6 hs6 ⊢
              have hl1 : lb < it := by rw [hit]; exact hP.out.1.lt
              have hl2 : lb + 1 < it := by rw [hit]; exact hP.out.2.1.lt
              have hL6 : LockIs W6 lb h5 N5 := hP.out.1.keep (fun g t cs h => h.turned ht6 (fun e => e))
              have hB6 : Below lb w W6 := hP.out.2.2.2.trans (ht6.below (by omega) (fun j hj => hj.elim))
              have HR6 := hide hR6
              have HL6 := hide hL6
              have HB6 := hide hB6
              have HS := hide hP.out.2.2.1
              clear hR6 hL6 hB6 ht6 hP hit
              go_wp2_with fail
              go_loopw [7] (fun v7 wr => ∃ (acc : Int) (left : List ((Int × Int) × Value)), v7 = .int .i64 acc ∧ 0 ≤ acc ∧ acc + total h5 left = total h5 L5 ∧ 0 ≤ total h5 left ∧ RangeAt wr it (lb + 1) stepKey stepOk L5 left ∧ LockIs wr lb h5 N5 ∧ Below lb w wr) (fun _ wr => iterLeft wr it)
              case atStart => exact ⟨0, L5, rfl, by omega, by omega, total_nonneg _ _, HR6.out, HL6.out, HB6.out⟩
              case round =>
                obtain ⟨acc, left, rfl, hacc, htot, hnn, hR, hL7, hB7⟩ := hrel
                rcases run_next (P := Try.prog) 0 hR with ⟨hnil, hrun⟩ | ⟨a, v, left', w8, hmem, hperm, hrun, hentry, hR', ht'⟩
                · subst hnil
                  have HL7 := hide hL7
                  have HB7 := hide hB7
                  have hone : total h5 L5 = if h5.isSome then 1 else 0 := total_says HS.out (hR.map.nodup)
                  have HM7 := hide hR.map
                  clear hL7 hB7 hR
                  go_wp2_with fail
                  obtain ⟨hx, hy, hheld⟩ := held_any wr lb h5 N5 HL7.out
                  refine hheld.mono ?_
                  rintro e w9 ⟨rfl, kd, rfl⟩
                  have hacc2 : acc = if h5.isSome then 1 else 0 := by
                    rw [← hone, ← htot]
                    simp [total]
                  clear hheld hone htot hnn hrun
                  rcases Bool.eq_false_or_eq_true h5.isSome with hsm | hsm
                  all_goals
                    rw [hsm] at hacc2 ⊢
                    simp only [if_true, Bool.false_eq_true, if_false] at hacc2
                    subst hacc2
                    go_wp2_with fail
                    exact ⟨⟨k + 1, h5, N5, L5, by omega, by simp, HL7.out.drewN _, HM7.out.drewN _, HS.out, Below.drewN_ HB7.out _⟩, by simp [intOf]; omega⟩
                · obtain ⟨am, as_⟩ := a
                  obtain rfl : v = .int .i64 (bit h5 (am, as_)) := HS.out.1 _ hmem
                  have hcount := hR.count
                  have hcount' := hR'.count
                  have hlen := hperm.length_eq
                  have htp := total_perm (h := h5) hperm
                  have hL8 : LockIs w8 lb h5 N5 := hL7.keep (turned_has ht' (iter_no hR))
                  have hB8 : Below lb w w8 := hB7.trans (ht'.below (by have := hB7.size; omega) (fun j hj => by omega))
                  have hen := hentry w8 rfl rfl
                  change (Instr.next _ _ _).run _ _ = .ok (.tuple #[.bool true, .agg #[.bool false, .int .i64 am, .int .i64 as_], .int .i64 (bit h5 (am, as_))]) w8 at hrun
                  change (Instr.entry _).run _ _ = .ok (.tuple #[.agg #[.bool false, .int .i64 am, .int .i64 as_], .int .i64 (bit h5 (am, as_))]) w8 at hen
                  obtain ⟨isb, hisc, hib⟩ := is_bit h5 N5 am as_
                  have hL9 : LockIs (w8.alloc (.cells #[.bool false, .int .i64 am, .int .i64 as_] 27)) lb h5 N5 := hL8.alloc _
                  have hR9 : RangeAt (w8.alloc (.cells #[.bool false, .int .i64 am, .int .i64 as_] 27)) it (lb + 1) stepKey stepOk L5 left' := hR'.kept (Below.heap_alloc _ _ _ hR'.map.lt) (Below.heap_alloc _ _ _ hR'.lt)
                  have hB9 : Below lb w (w8.alloc (.cells #[.bool false, .int .i64 am, .int .i64 as_] 27)) := hB8.alloc (by have := hR'.lt; omega) _
                  have HL9 := hide hL9
                  have HR9 := hide hR9
                  have HB9 := hide hB9
                  have Hisc := hide hisc
                  have hcount9 := hR9.count
                  have hnn' := total_nonneg h5 left'
                  have hone : total h5 L5 = if h5.isSome then 1 else 0 := total_says HS.out (hR.map.nodup)
                  have hone1 : total h5 L5 ≤ 1 := by rw [hone]; split <;> omega
                  simp only [total] at htp
                  have HM := hide (And.intro hcount (And.intro hcount9 (And.intro hlen (And.intro htp (And.intro htot (And.intro hacc (And.intro hnn' hone1)))))))
                  clear hentry hL8 hL9 hR9 hB9 hB8 hR' ht' hL7 hB7 hR hmem hperm hcount hcount' hcount9 hlen htp htot hacc hnn hnn' hisc hone hone1
                  rcases hib with ⟨hm0, rfl⟩ | ⟨hm0, rfl⟩
                  all_goals
                    rw [hm0] at hrun hen HM
                    go_wp2_with fail
                    refine (Hisc.out _ lb HL9.out).mono ?_
                    rintro e w9 ⟨rfl, rfl⟩
                    go_wp2_with fail
                    obtain ⟨m1, m2, m3, m4, m5, m6, m7, m8⟩ := HM.out
                    refine ⟨⟨_, left', rfl, ?_, ?_, m7, HR9.out, HL9.out, HB9.out⟩, by rw [m2, m1, m3]; simp⟩
                    all_goals
                      first
                        | (rw [wrap64_in (by omega) (by omega)]; omega)
          | some q =>
            go_wp2_with fail
            refine (lock_take_some W3 lb mx sx N q HL3.out).mono ?_
            rintro e w4 ⟨rfl, rfl⟩
            go_wp2_with fail
            obtain ⟨h5, N5, L5, hP⟩ : ∃ h5 N5 L5, Hid (LockIs W3 lb h5 N5 ∧ MapIs W3 (lb + 1) stepKey stepOk L5 ∧ Says h5 L5 ∧ Below lb w W3) := ⟨some q, N, L, HL3.out, HM3.out, HSay.out, HB3.out⟩
            clear HL3 HM3 HB3 HSay HC3
            obtain ⟨W6, hr, hR6, ht6, hs6⟩ := run_range Try.underlying36 hP.out.2.1
            rw [hr]
            clear hr
            obtain ⟨it, hit⟩ : ∃ it, it = W3.heap.size := ⟨_, rfl⟩
            rw [← hit] at hR6 hs6 ⊢
            have hl1 : lb < it := by rw [hit]; exact hP.out.1.lt
            have hl2 : lb + 1 < it := by rw [hit]; exact hP.out.2.1.lt
            have hL6 : LockIs W6 lb h5 N5 := hP.out.1.keep (fun g t cs h => h.turned ht6 (fun e => e))
            have hB6 : Below lb w W6 := hP.out.2.2.2.trans (ht6.below (by omega) (fun j hj => hj.elim))
            have HR6 := hide hR6
            have HL6 := hide hL6
            have HB6 := hide hB6
            have HS := hide hP.out.2.2.1
            clear hR6 hL6 hB6 ht6 hP hit
            go_wp2_with fail
            go_loopw [7] (fun v7 wr => ∃ (acc : Int) (left : List ((Int × Int) × Value)), v7 = .int .i64 acc ∧ 0 ≤ acc ∧ acc + total h5 left = total h5 L5 ∧ 0 ≤ total h5 left ∧ RangeAt wr it (lb + 1) stepKey stepOk L5 left ∧ LockIs wr lb h5 N5 ∧ Below lb w wr) (fun _ wr => iterLeft wr it)
            case atStart => exact ⟨0, L5, rfl, by omega, by omega, total_nonneg _ _, HR6.out, HL6.out, HB6.out⟩
            case round =>
              obtain ⟨acc, left, rfl, hacc, htot, hnn, hR, hL7, hB7⟩ := hrel
              rcases run_next (P := Try.prog) 0 hR with ⟨hnil, hrun⟩ | ⟨a, v, left', w8, hmem, hperm, hrun, hentry, hR', ht'⟩
              · subst hnil
                have HL7 := hide hL7
                have HB7 := hide hB7
                have hone : total h5 L5 = if h5.isSome then 1 else 0 := total_says HS.out (hR.map.nodup)
                have HM7 := hide hR.map
                clear hL7 hB7 hR
                go_wp2_with fail
                obtain ⟨hx, hy, hheld⟩ := held_any wr lb h5 N5 HL7.out
                refine hheld.mono ?_
                rintro e w9 ⟨rfl, kd, rfl⟩
                have hacc2 : acc = if h5.isSome then 1 else 0 := by
                  rw [← hone, ← htot]
                  simp [total]
                clear hheld hone htot hnn hrun
                rcases Bool.eq_false_or_eq_true h5.isSome with hsm | hsm
                all_goals
                  rw [hsm] at hacc2 ⊢
                  simp only [if_true, Bool.false_eq_true, if_false] at hacc2
                  subst hacc2
                  go_wp2_with fail
                  exact ⟨⟨k + 1, h5, N5, L5, by omega, by simp, HL7.out.drewN _, HM7.out.drewN _, HS.out, Below.drewN_ HB7.out _⟩, by simp [intOf]; omega⟩
              · obtain ⟨am, as_⟩ := a
                obtain rfl : v = .int .i64 (bit h5 (am, as_)) := HS.out.1 _ hmem
                have hcount := hR.count
                have hcount' := hR'.count
                have hlen := hperm.length_eq
                have htp := total_perm (h := h5) hperm
                have hL8 : LockIs w8 lb h5 N5 := hL7.keep (turned_has ht' (iter_no hR))
                have hB8 : Below lb w w8 := hB7.trans (ht'.below (by have := hB7.size; omega) (fun j hj => by omega))
                have hen := hentry w8 rfl rfl
                change (Instr.next _ _ _).run _ _ = .ok (.tuple #[.bool true, .agg #[.bool false, .int .i64 am, .int .i64 as_], .int .i64 (bit h5 (am, as_))]) w8 at hrun
                change (Instr.entry _).run _ _ = .ok (.tuple #[.agg #[.bool false, .int .i64 am, .int .i64 as_], .int .i64 (bit h5 (am, as_))]) w8 at hen
                obtain ⟨isb, hisc, hib⟩ := is_bit h5 N5 am as_
                have hL9 : LockIs (w8.alloc (.cells #[.bool false, .int .i64 am, .int .i64 as_] 27)) lb h5 N5 := hL8.alloc _
                have hR9 : RangeAt (w8.alloc (.cells #[.bool false, .int .i64 am, .int .i64 as_] 27)) it (lb + 1) stepKey stepOk L5 left' := hR'.kept (Below.heap_alloc _ _ _ hR'.map.lt) (Below.heap_alloc _ _ _ hR'.lt)
                have hB9 : Below lb w (w8.alloc (.cells #[.bool false, .int .i64 am, .int .i64 as_] 27)) := hB8.alloc (by have := hR'.lt; omega) _
                have HL9 := hide hL9
                have HR9 := hide hR9
                have HB9 := hide hB9
                have Hisc := hide hisc
                have hcount9 := hR9.count
                have hnn' := total_nonneg h5 left'
                have hone : total h5 L5 = if h5.isSome then 1 else 0 := total_says HS.out (hR.map.nodup)
                have hone1 : total h5 L5 ≤ 1 := by rw [hone]; split <;> omega
                simp only [total] at htp
                have HM := hide (And.intro hcount (And.intro hcount9 (And.intro hlen (And.intro htp (And.intro htot (And.intro hacc (And.intro hnn' hone1)))))))
                clear hentry hL8 hL9 hR9 hB9 hB8 hR' ht' hL7 hB7 hR hmem hperm hcount hcount' hcount9 hlen htp htot hacc hnn hnn' hisc hone hone1
                rcases hib with ⟨hm0, rfl⟩ | ⟨hm0, rfl⟩
                all_goals
                  rw [hm0] at hrun hen HM
                  go_wp2_with fail
                  refine (Hisc.out _ lb HL9.out).mono ?_
                  rintro e w9 ⟨rfl, rfl⟩
                  go_wp2_with fail
                  obtain ⟨m1, m2, m3, m4, m5, m6, m7, m8⟩ := HM.out
                  refine ⟨⟨_, left', rfl, ?_, ?_, m7, HR9.out, HL9.out, HB9.out⟩, by rw [m2, m1, m3]; simp⟩
                  all_goals
                    first
                      | (rw [wrap64_in (by omega) (by omega)]; omega)
      · go_wp2_with fail
        refine (lock_works _).mono ?_
        rintro e w3 ⟨rfl, hb3⟩
        go_wp2_with fail
        go_ret
        rw [hlb]
        exact ⟨rfl, hB.trans (hb3.mono (by rw [← hlb]; exact hB.size))⟩

end Go.Proofs.Ytjhfhognacjipaa
