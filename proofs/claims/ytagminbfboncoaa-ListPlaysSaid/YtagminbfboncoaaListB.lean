import Derived.Test.YtagminbfboncoaaList
import Derived.StillTailTactics
/-! Package list: Has, Peek, Next. -/
namespace Go.Proofs.Ytagminbfboncoaa
open Go.RowKit Go.Maps
set_option maxHeartbeats 1000000
set_option maxRecDepth 100000

/-- A region that draws its order, all but whose last operations only read. -/
theorem region_tail {P : Program} {id : Nat} {Q : Exit → Act → World → Prop} {a : Act} {w : World} {l : List Oper} (n : Nat) (hm : P.follows .mixedOrders = true) (hB : Region.lexTailB .any l.toArray n = true)
    (h : ∀ wd, wd = w.drew → wpStill P l.toArray wd (fun a' => wpList P l.toArray Q (l.drop n) a' wd) (l.take n) a) : (Code.region id l.toArray true).wp P Q a w :=
  wp_region_still_tail n hm hB (h _ rfl)

theorem below_on {w W W' : World} (h : Below w.heap.size w W) (hb : Below W.heap.size W W') : Below w.heap.size w W' := h.trans (hb.mono h.size)
theorem Has.last (w : World) (t : TypeId) (cs : Array Value) {k : Nat} (hk : k = w.heap.size) : Has (w.alloc (.cells cs t)) k t cs := hk ▸ Has.new w t cs

theorem zero_lp (w : World) : (zeroValue 56).run Try.prog w = .ok (.pointer none) w := by kernel_rfl

/-- What the map holds, as it is looked up. -/
theorem list_get {w : World} {mb : Nat} {hs : List (Int × Int)} {ks : List Nat} {m : List ((Int × Int) × Value)} (hm : MapIs w mb hKey hOk m) (hg : ∀ h, mget m h = (hs.findIdx? (fun x => decide (x = h))).bind fun i => (ks[i]?).map fun k => .pointer (some ⟨k, 0, none⟩))
    (h : Int × Int) (hok : hOk h) : (Instr.lookup 55 (.map (some mb)) (.agg #[.int .i64 h.1, .int .u64 h.2]) false).run Try.prog w = .ok (lp (linkOf hs ks h)) w := by
  have hr := run_get handle_mkey Try.underlying55 (zero_lp w) hm (a := h) hok false
  rw [if_neg (by simp), hg h] at hr
  refine hr.trans ?_
  congr 1
  unfold linkOf hAt lp
  cases hs.findIdx? (fun x => decide (x = h)) with
  | none => rfl
  | some i =>
    simp only [Option.bind_some]
    cases ks[i]? <;> rfl

theorem ListIs.below {N : Nat} {w w' : World} {b mb : Nat} {hs : List (Int × Int)} (h : ListIs N w b mb hs) (hb : Below w.heap.size w w') : ListIs N w' b mb hs := by
  obtain ⟨ks, m, h1, h2, h3, h4, h5, h6, h7, h8, h9⟩ := h
  exact ⟨ks, m, h1, h2, h3.below hb h3.lt, ⟨h4.1, h4.2.1, fun i x k hi hk => ⟨(h4.2.2 i x k hi hk).1, (h4.2.2 i x k hi hk).2.below hb (h4.2.2 i x k hi hk).2.lt⟩⟩, h5, h6, h7.kept (hb.block _ h7.lt), h8, h9⟩

theorem list_has (N : Nat) (w : World) (b mb : Nat) (hs : List (Int × Int)) (h : ListIs N w b mb hs) (p : Int × Int) (hok : hOk p) :
    Calls Try.prog 9 #[.pointer (some ⟨b, 0, none⟩), .agg #[.int .i64 p.1, .int .u64 p.2]] w fun e w' => e = .returned (.bool (hAt hs p).isSome) ∧ Below w.heap.size w w' := by
  have h0 := h
  obtain ⟨ks, m, _, _, hb, hc, _, _, hm, _, hg⟩ := h
  have hlk : (linkOf hs ks p).isSome = (hAt hs p).isSome := by
    unfold linkOf
    cases e : hAt hs p with
    | none => rfl
    | some i =>
      have hi := (List.getElem?_eq_some_iff.1 (hAt_some e)).1
      simp only [Option.bind_some]
      rw [List.getElem?_eq_getElem (by rw [hc.1]; exact hi)]
      rfl
  rw [← hlk]
  have hB := hide hb
  have hM := hide hm
  have HR := hide (fun W (hm : MapIs W mb hKey hOk m) => list_get hm hg p hok)
  obtain ⟨s, g⟩ := p
  generalize linkOf hs ks (s, g) = k at HR ⊢
  clear h0 hc hb hm hg hlk
  go_enter Try.func9, Try.ntmps9
  go_wp2_with fail
  refine region_tail 11 (by kernel_rfl) (by kernel_rfl) ?_
  intro wd hwd
  have hr := HR.out wd (by rw [hwd]; exact (hM.out.alloc _).drew)
  have c0 : wd.cell? ⟨b, 0, none⟩ = some (.map (some mb)) := by rw [hwd]; exact (hB.out.alloc _).cell 0
  have hn : Has wd w.heap.size 29 #[.int .i64 s, .int .u64 g] := by rw [hwd]; exact Has.new w _ _
  have d0 : wd.cell? ⟨w.heap.size, 0, none⟩ = some (.int .i64 s) := hn.cell 0
  have d1 : wd.cell? ⟨w.heap.size, 1, none⟩ = some (.int .u64 g) := hn.cell 1
  have B1 := hide (show Below w.heap.size w wd by rw [hwd]; exact ((Below.refl _ w).alloc (Nat.le_refl _) _).drew)
  clear hwd hn
  simp only [List.take_succ_cons, List.take_zero, List.drop_succ_cons, List.drop_zero]
  cases k
  all_goals
    simp only [lp, Option.map] at hr
    iterate 11 still_step
    refine wpStill_nil ?_
    go_wp2_with fail
    go_returns
    exact ⟨rfl, B1.out⟩

end Go.Proofs.Ytagminbfboncoaa
