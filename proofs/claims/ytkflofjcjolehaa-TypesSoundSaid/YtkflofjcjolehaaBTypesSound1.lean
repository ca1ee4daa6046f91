/- What the inner loop of TypesSound keeps from round to round (its body taken out of the given program by a function). No condition of its own. -/
import Derived.Test.YtkflofjcjolehaaBig13
import Derived.Test.YtkflofjcjolehaaBig5
import Derived.Test.YtkflofjcjolehaaBTypesSound0
import Derived.Test.YtkflofjcjolehaaBig15
import Derived.Test.YtkflofjcjolehaaBig14
/-! Types: how many fields a byte lies in. -/
namespace Go.Proofs.Ytkflofjcjolehaa
open Go.RowKit Go.Proofs.YtkflofjcjolehaaW.PrintWords
set_option linter.unusedSimpArgs false
set_option linter.unusedVariables false

def hitF (x : Int) (f : Fl) : Bool := decide (x ≥ f.at_) && decide (x < f.at_ + szK f.kd)

theorem countP_one {α : Type} {p : α → Bool} {l : List α} (h : l.Pairwise (fun a b => ¬ (p a = true ∧ p b = true))) : l.countP p ≤ 1 := by
  induction h with
  | nil => simp
  | @cons a l ha _ ih =>
    cases hp : p a with
    | false => rw [List.countP_cons_of_neg (by simp [hp])]; exact ih
    | true =>
      have : l.countP p = 0 := by
        rw [List.countP_eq_zero]
        intro b hb e
        exact ha b hb ⟨hp, e⟩
      rw [List.countP_cons_of_pos hp, this]
      omega

theorem hit_one {l : List Tp} {i : Nat} {t : Tp} (h : TpOk l i t) (x : Int) : t.fs.countP (hitF x) ≤ 1 := by
  apply countP_one
  rw [List.pairwise_iff_getElem]
  intro j k hj hk hjk ⟨h1, h2⟩
  have ok := h.fields k _ (List.getElem?_eq_getElem hk)
  have oj := h.fields j _ (List.getElem?_eq_getElem hj)
  have ap := ok.apart j _ hjk (List.getElem?_eq_getElem hj)
  have hz := h.size
  have a1 := ok.at0
  have a2 := oj.at0
  have a3 := ok.kind
  have a4 := oj.kind
  unfold hitF at h1 h2
  simp only [Bool.and_eq_true, decide_eq_true_eq] at h1 h2
  unfold flMeets at ap
  rw [w64, w64, show wrap64 (t.fs[k].at_ + szK t.fs[k].kd) = t.fs[k].at_ + szK t.fs[k].kd by unfold wrap64; omega, show wrap64 (t.fs[j].at_ + szK t.fs[j].kd) = t.fs[j].at_ + szK t.fs[j].kd by unfold wrap64; omega] at ap
  rw [decide_eq_true (show t.fs[j].at_ < t.fs[k].at_ + szK t.fs[k].kd by omega), decide_eq_true (show t.fs[k].at_ < t.fs[j].at_ + szK t.fs[j].kd by omega)] at ap
  cases ap

theorem hit_plain {l : List Tp} {i : Nat} {t : Tp} (h : TpOk l i t) {x : Int} (h0 : 0 ≤ x) (h1 : x < t.sz) : plainF t.sz t.fs x 1 = decide (t.fs.countP (hitF x) = 0) := by
  have hz := h.size
  have hb := small_in h
  have key : plainF t.sz t.fs x 1 = true ↔ t.fs.countP (hitF x) = 0 := by
    rw [plain_iff (by omega) (by omega) (by omega) hb, List.countP_eq_zero]
    constructor
    · rintro ⟨_, _, _, a4⟩ f hf e
      have hs := small_at h f hf
      unfold hitF at e
      simp only [Bool.and_eq_true, decide_eq_true_eq] at e
      exact a4 f hf (by omega) (by omega)
    · intro a4
      refine ⟨by omega, h0, by omega, fun f hf hs hc => a4 f hf ?_⟩
      unfold hitF
      simp only [Bool.and_eq_true, decide_eq_true_eq]
      omega
  cases hp : plainF t.sz t.fs x 1 with
  | true => exact (decide_eq_true (key.1 hp)).symm
  | false => exact (decide_eq_false (fun e => by rw [key.2 e] at hp; cases hp)).symm

theorem hit_out {l : List Tp} {i : Nat} {t : Tp} (h : TpOk l i t) : plainF t.sz t.fs t.sz 1 = false ∧ plainF t.sz t.fs (-1) 1 = false ∧ plainF t.sz t.fs 0 0 = false ∧ plainF t.sz t.fs 0 (t.sz + 1) = false := by
  have hz := h.size
  have hb := small_in h
  have f : ∀ x n : Int, -1000000 ≤ x → x ≤ 1000000 → -1000000 ≤ n → n ≤ 1000000 → ¬ (1 ≤ n ∧ 0 ≤ x ∧ n ≤ t.sz - x) → plainF t.sz t.fs x n = false := by
    intro x n a1 a2 a3 a4 hn
    cases hp : plainF t.sz t.fs x n with
    | false => rfl
    | true =>
      have := (plain_iff (by omega) ⟨a1, a2⟩ ⟨a3, a4⟩ hb).1 hp
      exact absurd ⟨this.1, this.2.1, this.2.2.1⟩ hn
  exact ⟨f _ _ (by omega) (by omega) (by omega) (by omega) (by omega), f _ _ (by omega) (by omega) (by omega) (by omega) (by omega), f _ _ (by omega) (by omega) (by omega) (by omega) (by omega), f _ _ (by omega) (by omega) (by omega) (by omega) (by omega)⟩

theorem hit_next {fs : List Fl} {k : Nat} {f : Fl} (hf : fs[k]? = some f) (x : Int) : (fs.take (k + 1)).countP (hitF x) = (fs.take k).countP (hitF x) + (if hitF x f = true then 1 else 0) := by
  rw [List.take_add_one, hf, List.countP_append]
  simp [List.countP_cons]
end Go.Proofs.Ytkflofjcjolehaa

/-! Types: what TypesSound asks of a type of a table that may be, in plain Lean. -/
namespace Go.Proofs.Ytkflofjcjolehaa
open Go.RowKit Go.Proofs.YtkflofjcjolehaaW.PrintWords
set_option linter.unusedSimpArgs false
set_option linter.unusedVariables false

/-- A type's name is found at the type itself. -/
theorem snd_of {l : List Tp} {i : Nat} {t : Tp} (h : TpOk l i t) (ht : l[i]? = some t) : ofIdx l t.nm = i := by
  have hp : (fun x : Tp => x.nm.toList == t.nm.toList) t = true := by simp
  have hf := h.first
  unfold ofIdx at hf ⊢
  cases hx : l.findIdx? (fun x => x.nm.toList == t.nm.toList) with
  | none =>
    rw [List.findIdx?_eq_none_iff] at hx
    have := hx t (List.mem_of_getElem? ht)
    simp at this
  | some k =>
    have e : idxI (fun x : Tp => x.nm.toList == t.nm.toList) l = (k : Int) := by unfold idxI; rw [hx]
    rw [e] at hf ⊢
    obtain ⟨h1, h2, h3⟩ := List.findIdx?_eq_some_iff_getElem.1 hx
    rcases Nat.lt_or_ge i k with hik | hik
    · have := h3 i hik
      have hg : l[i] = t := (List.getElem?_eq_some_iff.1 ht).2
      rw [hg] at this
      simp at this
    · omega

/-- A field's place is found at the field itself. -/
theorem snd_at {l : List Tp} {i : Nat} {t : Tp} (h : TpOk l i t) {k : Nat} {f : Fl} (hf : t.fs[k]? = some f) : atIdx t.fs f.at_ = k := by
  refine idxI_some (y := f) (fun j g hj hg => ?_) hf (by simp)
  have ok := h.fields k f hf
  have oj := h.fields j g hg
  have ap := ok.apart j g hj hg
  have hz := h.size
  have a1 := ok.at0
  have a2 := oj.at0
  have a3 := ok.kind
  have a4 := oj.kind
  cases he : (g.at_ == f.at_) with
  | false => rfl
  | true =>
    exfalso
    have e : g.at_ = f.at_ := by simpa using he
    unfold flMeets at ap
    rw [w64, w64, show wrap64 (f.at_ + szK f.kd) = f.at_ + szK f.kd by unfold wrap64; omega, show wrap64 (g.at_ + szK g.kd) = g.at_ + szK g.kd by unfold wrap64; omega] at ap
    rw [decide_eq_true (show g.at_ < f.at_ + szK f.kd by omega), decide_eq_true (show f.at_ < g.at_ + szK g.kd by omega)] at ap
    cases ap

/-- What a field holds may be. -/
theorem snd_holds {l : List Tp} {t : Tp} (h : badHold l t = none) {k : Nat} {f : Fl} (hf : t.fs[k]? = some f) : holdsF l f = true := by
  have hk := (List.getElem?_eq_some_iff.1 hf).1
  have hg : t.fs.getD k zF = f := by rw [List.getD_eq_getElem?_getD, hf]; rfl
  unfold badHold at h
  have := seekE_none h k (by omega) (by omega)
  rw [hg] at this
  by_cases e : holdsF l f = true
  · exact e
  · rw [if_neg e] at this; omega

/-- A kind is found just if a field has it. -/
theorem snd_kd (fs : List Fl) (x : Int) : decide (kdIdx fs x ≥ 0) = hasK fs [x] := by
  unfold kdIdx
  rw [idxI_any]
  unfold hasK
  congr 1
  funext f
  simp

/-- Lists have locks and no nodes, and are no objects; nodes are objects. -/
theorem snd_mix {l : List Tp} {i : Nat} {t : Tp} (h : TpOk l i t) : (hasK t.fs [2] = true → hasK t.fs [7] = true ∧ hasK t.fs [3] = false ∧ objK t.fs = false) ∧ (hasK t.fs [3] = true → objK t.fs = true) := by
  have hl := h.lock
  have ho := h.one
  have hm : ∀ x : Int, hasK t.fs [x] = true ↔ ∃ f ∈ t.fs, f.kd = x := fun x => by unfold hasK; simp
  have h24 : hasK t.fs [2, 4] = true ↔ ∃ f ∈ t.fs, f.kd = 2 ∨ f.kd = 4 := by unfold hasK; simp
  have hob : objK t.fs = false ↔ ∃ f ∈ t.fs, f.kd = 2 ∨ f.kd = 4 ∨ f.kd = 7 := by unfold objK hasK; simp
  have hva : valK t.fs = false ↔ ∃ f ∈ t.fs, f.kd = 3 ∨ f.kd = 5 ∨ f.kd = 6 := by unfold valK hasK; simp
  constructor
  · intro h2
    obtain ⟨f, hf, hk⟩ := (hm 2).1 h2
    have o1 : objK t.fs = false := hob.2 ⟨f, hf, .inl hk⟩
    refine ⟨hl (h24.2 ⟨f, hf, .inl hk⟩), ?_, o1⟩
    cases h3 : hasK t.fs [3] with
    | false => rfl
    | true =>
      obtain ⟨f', hf', hk'⟩ := (hm 3).1 h3
      exact absurd ⟨o1, hva.2 ⟨f', hf', .inl hk'⟩⟩ ho
  · intro h3
    obtain ⟨f', hf', hk'⟩ := (hm 3).1 h3
    cases o1 : objK t.fs with
    | true => rfl
    | false => exact absurd ⟨o1, hva.2 ⟨f', hf', .inl hk'⟩⟩ ho

/-- The type that is held. -/
theorem snd_obj {l : List Tp} {o : Int} (h : objAt l o = true) : ∃ (m : Nat) (u : Tp), o = m ∧ m < l.length ∧ l[m]? = some u ∧ objK u.fs = true := by
  unfold objAt at h
  simp only [Bool.and_eq_true, decide_eq_true_eq] at h
  obtain ⟨h1, h2, h3⟩ := h
  have hm : o.toNat < l.length := by omega
  rw [List.getD_eq_getElem?_getD, List.getElem?_eq_getElem hm] at h3
  exact ⟨o.toNat, _, by omega, hm, List.getElem?_eq_getElem hm, h3⟩

/-- The field by which it is held. -/
theorem snd_by {l : List Tp} {m : Nat} {u : Tp} {node kind : Int} (hu : l[m]? = some u) (h : byAt l m node kind = true) : ∃ (q : Nat) (g : Fl), node = q ∧ q < u.fs.length ∧ u.fs[q]? = some g ∧ g.kd = kind := by
  unfold byAt at h
  rw [Int.toNat_natCast, List.getD_eq_getElem?_getD, hu] at h
  simp only [Option.getD_some, Bool.and_eq_true, decide_eq_true_eq, beq_iff_eq] at h
  obtain ⟨h1, h2, h3⟩ := h
  have hm : node.toNat < u.fs.length := by omega
  rw [List.getD_eq_getElem?_getD, List.getElem?_eq_getElem hm] at h3
  exact ⟨node.toNat, _, by omega, hm, List.getElem?_eq_getElem hm, h3⟩

theorem snd_h1 {l : List Tp} {f : Fl} (h : holdsF l f = true) (hk : f.kd = 1) : objAt l f.of = true := by
  unfold holdsF at h
  rw [if_pos hk, Bool.and_eq_true] at h
  exact h.1
theorem snd_h2 {l : List Tp} {f : Fl} (h : holdsF l f = true) (hk : f.kd = 2) : objAt l f.of = true ∧ byAt l f.of f.node 3 = true := by
  unfold holdsF at h
  rw [if_neg (by omega), if_pos hk, Bool.and_eq_true] at h
  exact h
theorem snd_h4 {l : List Tp} {f : Fl} (h : holdsF l f = true) (hk : f.kd = 4) : objAt l f.of = true ∧ byAt l f.of f.node 5 = true := by
  unfold holdsF at h
  rw [if_neg (by omega), if_neg (by omega), if_pos hk, Bool.and_eq_true] at h
  exact h
end Go.Proofs.Ytkflofjcjolehaa

/-! Types: Sound's inner loop, its parts. -/
namespace Go.Proofs.Ytkflofjcjolehaa
open Go.RowKit Go.Proofs.YtkflofjcjolehaaW.PrintWords
set_option maxHeartbeats 40000000
set_option maxRecDepth 1000000
set_option linter.unusedSimpArgs false
set_option linter.unusedVariables false

theorem ld_tp (W : World) (b : Nat) (nm : ByteArray) (sz : Int) (A : Option Addr) (n c : Nat) (h0 : W.cell? ⟨b, 0, none⟩ = some (.string nm)) (h1 : W.cell? ⟨b, 1, none⟩ = some (.int .i64 sz)) (h2 : W.cell? ⟨b, 2, none⟩ = some (.slice A n c)) :
    (Instr.loadAt 44 (.pointer (some ⟨b, 0, none⟩))).run Try.prog W = .ok (.agg #[.string nm, .int .i64 sz, .slice A n c]) W := by go_simp
theorem ld_tpo (W : World) (b o : Nat) (nm : ByteArray) (sz : Int) (A : Option Addr) (n c : Nat) (h0 : W.cell? ⟨b, o, none⟩ = some (.string nm)) (h1 : W.cell? ⟨b, o + 1, none⟩ = some (.int .i64 sz)) (h2 : W.cell? ⟨b, o + 2, none⟩ = some (.slice A n c)) :
    (Instr.loadAt 44 (.pointer (some ⟨b, o, none⟩))).run Try.prog W = .ok (.agg #[.string nm, .int .i64 sz, .slice A n c]) W := by go_simp
theorem neq_same (x : Int) (W : World) : (binOp .neq 3 (.int .i64 x) (.int .i64 x)).run Try.prog W = .ok (.bool false) W := by simp [go_sem]
theorem gtr_no (x y : Int) (h : x ≤ y) (W : World) : (binOp .gtr 3 (.int .i64 x) (.int .i64 y)).run Try.prog W = .ok (.bool false) W := by simp [go_sem]; omega

/-- The first loop's body in a piece of code. -/
def loopIn : Code → Option Code
  | .loop c => some c
  | .seq a b => match loopIn a with
    | some c => some c
    | none => loopIn b
  | .block _ c => loopIn c
  | .scope c => loopIn c
  | .cond _ a b => match loopIn a with
    | some c => some c
    | none => loopIn b
  | _ => none

/-- The inner loop's body. -/
noncomputable def sndInner : Code := (((Try.f9.body.bind loopIn).bind loopIn).getD .skip)

/-- What is known of the type at place i, of the table in w. -/
structure SndIn (w : World) (l : List Tp) (cb off n c i : Nat) (t : Tp) (A2 : Option Addr) (N c2 : Nat) : Prop where
  len : l.length = n
  mem : kT.C w (some ⟨cb, off, none⟩) n l
  n32 : n ≤ 32
  ok : TpOk l i t
  bh : badHold l t = none
  at_ : l[i]? = some t
  num : t.fs.length = N
  fs : kF.C w A2 N t.fs
  fn : ∀ f, f ∈ t.fs → f.nm.size ≤ 1000000
  may : ∀ (w : World) (s : ByteArray), s.size ≤ 1000000 → Calls Try.prog 23 #[.string s] w fun e w' => e = .returned (.bool (nameMay s)) ∧ Below w.heap.size w w'

set_option maxRecDepth 1000000 in
/-- The inner loop's relation: slot 10 counts, the type's copy stands at g; s..: what else there is. -/
def SndWI (s1 s3 s4 s5 s6 s8 s9 s15 s16 s17 s18 s19 s20 s21 s22 s23 s24 s25 s26 s27 s28 s29 s30 s31 s32 s33 s34 s35 s36 s37 s38 s39 s40 s41 s42 s43 s44 s45 s46 s47 s48 s49 s50 s51 s52 s53 s54 s55 s56 s57 s58 s59 s60 s61 s62 s63 s64 s65 s66 s67 s68 s69 s70 s71 s72 s73 s74 s75 s76 s77 s78 s229 s230 s231 s232 s233 s234 s235 s236 s237 s238 s239 s240 s241 s242 s243 s244 s245 s246 s247 s248 s249 s250 s251 s252 s253 s254 s255 s256 s257 s258 s259 s260 s261 s262 s263 s264 : Value) (w : World) (cb off n c g : Nat) (nm : ByteArray) (sz : Int) (A2 : Option Addr) (N c2 : Nat) (a : Act) (w' : World) : Prop :=
  ∃ s2 s10 s11 s12 s13 s14 s79 s80 s81 s82 s83 s84 s85 s86 s87 s88 s89 s90 s91 s92 s93 s94 s95 s96 s97 s98 s99 s100 s101 s102 s103 s104 s105 s106 s107 s108 s109 s110 s111 s112 s113 s114 s115 s116 s117 s118 s119 s120 s121 s122 s123 s124 s125 s126 s127 s128 s129 s130 s131 s132 s133 s134 s135 s136 s137 s138 s139 s140 s141 s142 s143 s144 s145 s146 s147 s148 s149 s150 s151 s152 s153 s154 s155 s156 s157 s158 s159 s160 s161 s162 s163 s164 s165 s166 s167 s168 s169 s170 s171 s172 s173 s174 s175 s176 s177 s178 s179 s180 s181 s182 s183 s184 s185 s186 s187 s188 s189 s190 s191 s192 s193 s194 s195 s196 s197 s198 s199 s200 s201 s202 s203 s204 s205 s206 s207 s208 s209 s210 s211 s212 s213 s214 s215 s216 s217 s218 s219 s220 s221 s222 s223 s224 s225 s226 s227 s228 : Value, (∃ k : Nat, k ≤ N ∧ s10 = .int .i64 k ∧ Has w' g 44 #[.string nm, .int .i64 sz, .slice A2 N c2] ∧ Below w.heap.size w w') ∧ a = ⟨#[.slice (some ⟨cb, off, none⟩) n c, s1, s2, s3, s4, s5, s6, .pointer (some ⟨g, 0, none⟩), s8, s9, s10, s11, s12, s13, s14, s15, s16, s17, s18, s19, s20, s21, s22, s23, s24, s25, s26, s27, s28, s29, s30, s31, s32, s33, s34, s35, s36, s37, s38, s39, s40, s41, s42, s43, s44, s45, s46, s47, s48, s49, s50, s51, s52, s53, s54, s55, s56, s57, s58, s59, s60, s61, s62, s63, s64, s65, s66, s67, s68, s69, s70, s71, s72, s73, s74, s75, s76, s77, s78, s79, s80, s81, s82, s83, s84, s85, s86, s87, s88, s89, s90, s91, s92, s93, s94, s95, s96, s97, s98, s99, s100, s101, s102, s103, s104, s105, s106, s107, s108, s109, s110, s111, s112, s113, s114, s115, s116, s117, s118, s119, s120, s121, s122, s123, s124, s125, s126, s127, s128, s129, s130, s131, s132, s133, s134, s135, s136, s137, s138, s139, s140, s141, s142, s143, s144, s145, s146, s147, s148, s149, s150, s151, s152, s153, s154, s155, s156, s157, s158, s159, s160, s161, s162, s163, s164, s165, s166, s167, s168, s169, s170, s171, s172, s173, s174, s175, s176, s177, s178, s179, s180, s181, s182, s183, s184, s185, s186, s187, s188, s189, s190, s191, s192, s193, s194, s195, s196, s197, s198, s199, s200, s201, s202, s203, s204, s205, s206, s207, s208, s209, s210, s211, s212, s213, s214, s215, s216, s217, s218, s219, s220, s221, s222, s223, s224, s225, s226, s227, s228, s229, s230, s231, s232, s233, s234, s235, s236, s237, s238, s239, s240, s241, s242, s243, s244, s245, s246, s247, s248, s249, s250, s251, s252, s253, s254, s255, s256, s257, s258, s259, s260, s261, s262, s263, s264], []⟩

/-- How many rounds are left. -/
def sndMu (N : Nat) (a : Act) (_ : World) : Nat := N - (intOf (a.tmps.getD 10 Go.undef)).toNat
end Go.Proofs.Ytkflofjcjolehaa

/-! Types: a round of Sound's inner loop. -/
namespace Go.Proofs.Ytkflofjcjolehaa
open Go.RowKit Go.Proofs.YtkflofjcjolehaaW.PrintWords
set_option maxHeartbeats 40000000
set_option maxRecDepth 1000000
set_option linter.unusedSimpArgs false
set_option linter.unusedVariables false

theorem snd_way1 (s1 s3 s4 s5 s6 s8 s9 s15 s16 s17 s18 s19 s20 s21 s22 s23 s24 s25 s26 s27 s28 s29 s30 s31 s32 s33 s34 s35 s36 s37 s38 s39 s40 s41 s42 s43 s44 s45 s46 s47 s48 s49 s50 s51 s52 s53 s54 s55 s56 s57 s58 s59 s60 s61 s62 s63 s64 s65 s66 s67 s68 s69 s70 s71 s72 s73 s74 s75 s76 s77 s78 s229 s230 s231 s232 s233 s234 s235 s236 s237 s238 s239 s240 s241 s242 s243 s244 s245 s246 s247 s248 s249 s250 s251 s252 s253 s254 s255 s256 s257 s258 s259 s260 s261 s262 s263 s264 : Value) (s2 s11 s12 s13 s14 s79 s80 s81 s82 s83 s84 s85 s86 s87 s88 s89 s90 s91 s92 s93 s94 s95 s96 s97 s98 s99 s100 s101 s102 s103 s104 s105 s106 s107 s108 s109 s110 s111 s112 s113 s114 s115 s116 s117 s118 s119 s120 s121 s122 s123 s124 s125 s126 s127 s128 s129 s130 s131 s132 s133 s134 s135 s136 s137 s138 s139 s140 s141 s142 s143 s144 s145 s146 s147 s148 s149 s150 s151 s152 s153 s154 s155 s156 s157 s158 s159 s160 s161 s162 s163 s164 s165 s166 s167 s168 s169 s170 s171 s172 s173 s174 s175 s176 s177 s178 s179 s180 s181 s182 s183 s184 s185 s186 s187 s188 s189 s190 s191 s192 s193 s194 s195 s196 s197 s198 s199 s200 s201 s202 s203 s204 s205 s206 s207 s208 s209 s210 s211 s212 s213 s214 s215 s216 s217 s218 s219 s220 s221 s222 s223 s224 s225 s226 s227 s228 : Value) (w : World) (cb off n c : Nat) (l : List Tp) (i : Nat) (t : Tp) (A2 : Option Addr) (N c2 g : Nat) (wr : World) (X : SndIn w l cb off n c i t A2 N c2) (k : Nat) (hkN : k < N) (hH : Has wr g 44 #[.string t.nm, .int .i64 t.sz, .slice A2 N c2]) (hB : Below w.heap.size w wr) (f : Fl) (hf : t.fs[k]? = some f) (hkd : f.kd = 1) (QX : Exit → Act → World → Prop) :
    Code.wp Try.prog sndInner (Exit.then (fun a' w'' => SndWI s1 s3 s4 s5 s6 s8 s9 s15 s16 s17 s18 s19 s20 s21 s22 s23 s24 s25 s26 s27 s28 s29 s30 s31 s32 s33 s34 s35 s36 s37 s38 s39 s40 s41 s42 s43 s44 s45 s46 s47 s48 s49 s50 s51 s52 s53 s54 s55 s56 s57 s58 s59 s60 s61 s62 s63 s64 s65 s66 s67 s68 s69 s70 s71 s72 s73 s74 s75 s76 s77 s78 s229 s230 s231 s232 s233 s234 s235 s236 s237 s238 s239 s240 s241 s242 s243 s244 s245 s246 s247 s248 s249 s250 s251 s252 s253 s254 s255 s256 s257 s258 s259 s260 s261 s262 s263 s264 w cb off n c g t.nm t.sz A2 N c2 a' w'' ∧ sndMu N a' w'' < sndMu N ⟨#[.slice (some ⟨cb, off, none⟩) n c, s1, s2, s3, s4, s5, s6, .pointer (some ⟨g, 0, none⟩), s8, s9, .int .i64 (k : Int), s11, s12, s13, s14, s15, s16, s17, s18, s19, s20, s21, s22, s23, s24, s25, s26, s27, s28, s29, s30, s31, s32, s33, s34, s35, s36, s37, s38, s39, s40, s41, s42, s43, s44, s45, s46, s47, s48, s49, s50, s51, s52, s53, s54, s55, s56, s57, s58, s59, s60, s61, s62, s63, s64, s65, s66, s67, s68, s69, s70, s71, s72, s73, s74, s75, s76, s77, s78, s79, s80, s81, s82, s83, s84, s85, s86, s87, s88, s89, s90, s91, s92, s93, s94, s95, s96, s97, s98, s99, s100, s101, s102, s103, s104, s105, s106, s107, s108, s109, s110, s111, s112, s113, s114, s115, s116, s117, s118, s119, s120, s121, s122, s123, s124, s125, s126, s127, s128, s129, s130, s131, s132, s133, s134, s135, s136, s137, s138, s139, s140, s141, s142, s143, s144, s145, s146, s147, s148, s149, s150, s151, s152, s153, s154, s155, s156, s157, s158, s159, s160, s161, s162, s163, s164, s165, s166, s167, s168, s169, s170, s171, s172, s173, s174, s175, s176, s177, s178, s179, s180, s181, s182, s183, s184, s185, s186, s187, s188, s189, s190, s191, s192, s193, s194, s195, s196, s197, s198, s199, s200, s201, s202, s203, s204, s205, s206, s207, s208, s209, s210, s211, s212, s213, s214, s215, s216, s217, s218, s219, s220, s221, s222, s223, s224, s225, s226, s227, s228, s229, s230, s231, s232, s233, s234, s235, s236, s237, s238, s239, s240, s241, s242, s243, s244, s245, s246, s247, s248, s249, s250, s251, s252, s253, s254, s255, s256, s257, s258, s259, s260, s261, s262, s263, s264], []⟩ wr) QX) ⟨#[.slice (some ⟨cb, off, none⟩) n c, s1, s2, s3, s4, s5, s6, .pointer (some ⟨g, 0, none⟩), s8, s9, .int .i64 (k : Int), s11, s12, s13, s14, s15, s16, s17, s18, s19, s20, s21, s22, s23, s24, s25, s26, s27, s28, s29, s30, s31, s32, s33, s34, s35, s36, s37, s38, s39, s40, s41, s42, s43, s44, s45, s46, s47, s48, s49, s50, s51, s52, s53, s54, s55, s56, s57, s58, s59, s60, s61, s62, s63, s64, s65, s66, s67, s68, s69, s70, s71, s72, s73, s74, s75, s76, s77, s78, s79, s80, s81, s82, s83, s84, s85, s86, s87, s88, s89, s90, s91, s92, s93, s94, s95, s96, s97, s98, s99, s100, s101, s102, s103, s104, s105, s106, s107, s108, s109, s110, s111, s112, s113, s114, s115, s116, s117, s118, s119, s120, s121, s122, s123, s124, s125, s126, s127, s128, s129, s130, s131, s132, s133, s134, s135, s136, s137, s138, s139, s140, s141, s142, s143, s144, s145, s146, s147, s148, s149, s150, s151, s152, s153, s154, s155, s156, s157, s158, s159, s160, s161, s162, s163, s164, s165, s166, s167, s168, s169, s170, s171, s172, s173, s174, s175, s176, s177, s178, s179, s180, s181, s182, s183, s184, s185, s186, s187, s188, s189, s190, s191, s192, s193, s194, s195, s196, s197, s198, s199, s200, s201, s202, s203, s204, s205, s206, s207, s208, s209, s210, s211, s212, s213, s214, s215, s216, s217, s218, s219, s220, s221, s222, s223, s224, s225, s226, s227, s228, s229, s230, s231, s232, s233, s234, s235, s236, s237, s238, s239, s240, s241, s242, s243, s244, s245, s246, s247, s248, s249, s250, s251, s252, s253, s254, s255, s256, s257, s258, s259, s260, s261, s262, s263, s264], []⟩ wr := by
  have HN := hide X.num
  have HF := hide X.fs
  have HT := hide X.ok
  have HBH := hide X.bh
  have HTM := hide X.at_
  have HL := hide X.len
  have HC := hide X.mem
  have HMAY := hide X.may
  have HFN := hide X.fn
  have HN32 := hide X.n32
  have hn32 : n ≤ 32 := X.n32
  have HAT := hide (fun W (hW : Below w.heap.size w W) x => ty_at W t.nm t.sz A2 c2 t.fs N HN.out (Kd.C_below HF.out hW) x)
  have HH := hide hH
  have HB := hide hB
  clear hB X
  have g0 := hH.cell 0
  have g1 := hH.cell 1
  have g2 := hH.cell 2
  simp at g0 g1 g2
  clear hH
  conv => arg 2; whnf
  have HKD := hide hkd
  clear hkd
  have hk1 : (k : Int) < N := by omega
  have hk0 : (0 : Int) ≤ k := by omega
  obtain ⟨fb, fo, rfl, e0, e1, e2, e3, e4⟩ := fl_at HF.out HB.out hf
  have HFK := hide (HT.out.fields k f hf)
  have HFM := hide (List.mem_of_getElem? hf)
  have HHO := hide (snd_holds HBH.out hf)
  obtain ⟨h, hh⟩ : ∃ h, wr.heap.size = h := ⟨_, rfl⟩
  have HL0 : Hid (Has (wr.alloc (.cells #[.string f.nm, .int .u8 f.kd, .int .i64 f.at_, .int .i64 f.of, .int .i64 f.node] 46)) h 46 #[.string f.nm, .int .u8 f.kd, .int .i64 f.at_, .int .i64 f.of, .int .i64 f.node]) := hide (by rw [← hh]; exact Has.new _ _ _)
  have HB1 := hide (bel_trans HB.out (below_box wr (.cells #[.string f.nm, .int .u8 f.kd, .int .i64 f.at_, .int .i64 f.of, .int .i64 f.node] 46)))
  have HH1 := hide (HH.out.alloc (.cells #[.string f.nm, .int .u8 f.kd, .int .i64 f.at_, .int .i64 f.of, .int .i64 f.node] 46))
  have HATE := hide (HAT.out _ HB1.out f.at_)
  rw [snd_at HT.out hf, show max (k : Int) 0 = k by omega, decide_eq_true hk0] at HATE
  have HKN := hide hkN
  have hgh : g ≠ h := by have := HH.out.lt; omega
  have y0 := HH1.out.cell 0
  have y1 := HH1.out.cell 1
  have y2 := HH1.out.cell 2
  have l2 := HL0.out.cell 2
  simp at y0 y1 y2 l2
  clear hf hkN
  go_wp2_with fail
  refine HATE.out.mono ?_
  rintro e w6 ⟨rfl, hb⟩
  have HB6 := hide (bel_trans HB1.out hb)
  have HH6 := hide (HH1.out.below hb HH1.out.lt)
  have HL6 := hide (HL0.out.below hb HL0.out.lt)
  clear hb HATE HL0 HH1 HB1 HB HH g0 g1 g2 e0 e1 e2 e3 e4 y0 y1 y2 l2
  go_wp2_with fail
  have L0 := hide (HL6.out.cell 0)
  have L1 := hide (HL6.out.cell 1)
  have L2 := hide (HL6.out.cell 2)
  have GC1 := hide (HH6.out.cell 1)
  have hfk := HFK.out.at0
  have hfz := HT.out.size
  have hfs := HFK.out.kind
  have HSB : Hid (∀ W, Calls Try.prog 21 #[.int .u8 f.kd] W fun e w' => e = .returned (.int .i64 (szK f.kd)) ∧ Below W.heap.size W w') := hide (fun W => (ty_size W f.kd).mono (by rintro e w' ⟨rfl, rfl⟩; exact ⟨rfl, Below.refl _ _⟩))
  have HM2 : Hid (∀ W, Calls Try.prog 23 #[.string f.nm] W fun e w' => e = .returned (.bool true) ∧ Below W.heap.size W w') := hide (fun W => by have := HMAY.out W f.nm (HFN.out f HFM.out); rwa [HFK.out.name] at this)
  have HNS := hide (fun W => neq_same (k : Int) W)
  have hre : f.at_.tmod 8 = 0 := by rw [Int.tmod_eq_emod_of_nonneg hfk.1]; exact hfk.2.1
  have HREM := hide (fun W : World => show (binOp .rem 3 (.int .i64 f.at_) (.int .i64 8)).run Try.prog W = .ok (.int .i64 0) W by simp [go_sem, hre, w64, wrap64])
  have HLSS := hide (fun W : World => show (binOp .lss 3 (.int .i64 f.at_) (.int .i64 0)).run Try.prog W = .ok (.bool false) W by simp [go_sem]; omega)
  have v1 : IntKind.i64.wrap (f.at_ + szK f.kd) = f.at_ + szK f.kd := by rw [w64]; unfold wrap64; omega
  have HADD := hide (fun W : World => show (binOp .add 3 (.int .i64 f.at_) (.int .i64 (szK f.kd))).run Try.prog W = .ok (.int .i64 (f.at_ + szK f.kd)) W by simp [go_sem, v1])
  have HGTR := hide (fun W => gtr_no (f.at_ + szK f.kd) t.sz (by omega) W)
  clear hfk hfz hfs v1 hre
  refine wp_region_abs [7, 10, 11, 12, 13] [98, 99, 100, 101, 102, 103, 104, 105, 106, 107, 108, 109, 110, 111, 112, 113, 114, 115, 116, 117, 118, 119, 120, 121, 122, 123, 124, 125, 126, 127, 128, 129, 130, 131]
    [.int .i64 (k : Int), .int .i64 (k : Int), .bool false, .bool false, .bool true, .bool false, .bool false, .bool false, .pointer (some ⟨h, 2, none⟩), .int .i64 f.at_, .int .i64 0, .bool false, .bool false, .bool false, .pointer (some ⟨h, 2, none⟩), .int .i64 f.at_, .bool false, .bool false, .bool false, .pointer (some ⟨h, 2, none⟩), .int .i64 f.at_, .pointer (some ⟨h, 1, none⟩), .int .u8 f.kd, .int .i64 (szK f.kd), .int .i64 (f.at_ + szK f.kd), .pointer (some ⟨g, 1, none⟩), .int .i64 t.sz, .bool false, .bool false, .bool false, .pointer (some ⟨h, 0, none⟩), .string f.nm, .bool true, .bool false] (by kernel_rfl) (by simp) rfl (by kernel_rfl) (by kernel_rfl) (by kernel_rfl) (by simp) (by decide) ?_ ?_
  · intro Q' a0 hT
    have o7 : a0.eval (.tmp 7) = .pointer (some ⟨g, 0, none⟩) := hT 7 (by simp)
    have o10 : a0.eval (.tmp 10) = .int .i64 (k : Int) := hT 10 (by simp)
    have o11 : a0.eval (.tmp 11) = .pointer (some ⟨h, 0, none⟩) := hT 11 (by simp)
    have o12 : a0.eval (.tmp 12) = .int .i64 (k : Int) := hT 12 (by simp)
    have o13 : a0.eval (.tmp 13) = .bool true := hT 13 (by simp)
    clear hT
    as_aux_lemma =>
      refine ⟨?_, ?_, ?_, ?_, ?_, ?_, ?_, ?_, ?_, ?_, ?_, ?_, ?_, ?_, ?_, ?_, ?_, ?_, ?_, ?_, ?_, ?_, ?_, ?_, ?_, ?_, ?_, ?_, ?_, ?_, ?_, ?_, ?_, ?_, trivial⟩
      · exact .inl ⟨.inl rfl, fun a' W hB hold he K hK => fx_move (.tmp 12) _ (.inl rfl) ((hold 12 (by decide)).trans o12) (hK _ (Below.refl _ _))⟩
      · exact .inl ⟨.inl rfl, fun a' W hB hold he K hK => fx_move (.tmp 10) _ (.inl rfl) ((hold 10 (by decide)).trans o10) (hK _ (Below.refl _ _))⟩
      · exact .inl ⟨.inl rfl, fun a' W hB hold he K hK => fx_bin .neq 3 3 (.tmp 98) (.tmp 99) _ _ _ rfl (he ⟨0, .data⟩ (by simp) rfl) (he ⟨1, .data⟩ (by simp) rfl) rfl (HNS.out _) (hK _ (Below.refl _ _))⟩
      · exact .inl ⟨.inl rfl, fun a' W hB hold he K hK => fx_move (.tmp 100) _ (.inl rfl) (he ⟨2, .data⟩ (by simp) rfl) (hK _ (Below.refl _ _))⟩
      · exact .inl ⟨.inr ⟨3, false, _, rfl, ⟨⟨3, .guard⟩, by simp, rfl, rfl⟩, rfl, rfl, by decide, rfl⟩, fun a' W hB hold he K hK => fx_move (.tmp 13) _ (.inl rfl) ((hold 13 (by decide)).trans o13) (hK _ (Below.refl _ _))⟩
      · exact .inl ⟨.inr ⟨3, false, _, rfl, ⟨⟨3, .guard⟩, by simp, rfl, rfl⟩, rfl, rfl, by decide, rfl⟩, fun a' W hB hold he K hK => fx_not 4 (.tmp 102) _ rfl (he ⟨4, .data⟩ (by simp) rfl) (hK _ (Below.refl _ _))⟩
      · exact .inl ⟨.inl rfl, fun a' W hB hold he K hK => fx_pick (.tmp 101) (.const (.bool true)) (.tmp 103) false _ rfl (he ⟨3, .data⟩ (by simp) rfl) (he ⟨5, .data⟩ (by simp) rfl) (hK _ (Below.refl _ _))⟩
      · exact .inl ⟨.inl rfl, fun a' W hB hold he K hK => fx_move (.tmp 104) _ (.inl rfl) (he ⟨6, .data⟩ (by simp) rfl) (hK _ (Below.refl _ _))⟩
      · exact .inl ⟨.inr ⟨7, false, _, rfl, ⟨⟨7, .guard⟩, by simp, rfl, rfl⟩, rfl, rfl, by decide, rfl⟩, fun a' W hB hold he K hK => fx_field 46 (.tmp 11) 2 _ _ rfl ((hold 11 (by decide)).trans o11) (by kernel_rfl) (hK _ (Below.refl _ _))⟩
      · exact .inl ⟨.inr ⟨7, false, _, rfl, ⟨⟨7, .guard⟩, by simp, rfl, rfl⟩, rfl, rfl, by decide, rfl⟩, fun a' W hB hold he K hK => wp_step_load 3 (.tmp 106) _ rfl _ (he ⟨8, .data⟩ (by simp) rfl) (load_int W _ _ _ (cell_bel L2.out hB)) (hK _ (Below.refl _ _))⟩
      · exact .inl ⟨.inr ⟨7, false, _, rfl, ⟨⟨7, .guard⟩, by simp, rfl, rfl⟩, rfl, rfl, by decide, rfl⟩, fun a' W hB hold he K hK => fx_bin .rem 3 3 (.tmp 107) (.const (.int .i64 8)) _ _ _ rfl (he ⟨9, .data⟩ (by simp) rfl) rfl rfl (HREM.out _) (hK _ (Below.refl _ _))⟩
      · exact .inl ⟨.inr ⟨7, false, _, rfl, ⟨⟨7, .guard⟩, by simp, rfl, rfl⟩, rfl, rfl, by decide, rfl⟩, fun a' W hB hold he K hK => fx_bin .neq 3 3 (.tmp 108) (.const (.int .i64 0)) _ _ _ rfl (he ⟨10, .data⟩ (by simp) rfl) rfl (by kernel_rfl) (by kernel_rfl) (hK _ (Below.refl _ _))⟩
      · exact .inl ⟨.inl rfl, fun a' W hB hold he K hK => fx_pick (.tmp 105) (.const (.bool true)) (.tmp 109) false _ rfl (he ⟨7, .data⟩ (by simp) rfl) (he ⟨11, .data⟩ (by simp) rfl) (hK _ (Below.refl _ _))⟩
      · exact .inl ⟨.inl rfl, fun a' W hB hold he K hK => fx_move (.tmp 110) _ (.inl rfl) (he ⟨12, .data⟩ (by simp) rfl) (hK _ (Below.refl _ _))⟩
      · exact .inl ⟨.inr ⟨13, false, _, rfl, ⟨⟨13, .guard⟩, by simp, rfl, rfl⟩, rfl, rfl, by decide, rfl⟩, fun a' W hB hold he K hK => fx_field 46 (.tmp 11) 2 _ _ rfl ((hold 11 (by decide)).trans o11) (by kernel_rfl) (hK _ (Below.refl _ _))⟩
      · exact .inl ⟨.inr ⟨13, false, _, rfl, ⟨⟨13, .guard⟩, by simp, rfl, rfl⟩, rfl, rfl, by decide, rfl⟩, fun a' W hB hold he K hK => wp_step_load 3 (.tmp 112) _ rfl _ (he ⟨14, .data⟩ (by simp) rfl) (load_int W _ _ _ (cell_bel L2.out hB)) (hK _ (Below.refl _ _))⟩
      · exact .inl ⟨.inr ⟨13, false, _, rfl, ⟨⟨13, .guard⟩, by simp, rfl, rfl⟩, rfl, rfl, by decide, rfl⟩, fun a' W hB hold he K hK => fx_bin .lss 3 3 (.tmp 113) (.const (.int .i64 0)) _ _ _ rfl (he ⟨15, .data⟩ (by simp) rfl) rfl rfl (HLSS.out _) (hK _ (Below.refl _ _))⟩
      · exact .inl ⟨.inl rfl, fun a' W hB hold he K hK => fx_pick (.tmp 111) (.const (.bool true)) (.tmp 114) false _ rfl (he ⟨13, .data⟩ (by simp) rfl) (he ⟨16, .data⟩ (by simp) rfl) (hK _ (Below.refl _ _))⟩
      · exact .inl ⟨.inl rfl, fun a' W hB hold he K hK => fx_move (.tmp 115) _ (.inl rfl) (he ⟨17, .data⟩ (by simp) rfl) (hK _ (Below.refl _ _))⟩
      · exact .inl ⟨.inr ⟨18, false, _, rfl, ⟨⟨18, .guard⟩, by simp, rfl, rfl⟩, rfl, rfl, by decide, rfl⟩, fun a' W hB hold he K hK => fx_field 46 (.tmp 11) 2 _ _ rfl ((hold 11 (by decide)).trans o11) (by kernel_rfl) (hK _ (Below.refl _ _))⟩
      · exact .inl ⟨.inr ⟨18, false, _, rfl, ⟨⟨18, .guard⟩, by simp, rfl, rfl⟩, rfl, rfl, by decide, rfl⟩, fun a' W hB hold he K hK => wp_step_load 3 (.tmp 117) _ rfl _ (he ⟨19, .data⟩ (by simp) rfl) (load_int W _ _ _ (cell_bel L2.out hB)) (hK _ (Below.refl _ _))⟩
      · exact .inl ⟨.inr ⟨18, false, _, rfl, ⟨⟨18, .guard⟩, by simp, rfl, rfl⟩, rfl, rfl, by decide, rfl⟩, fun a' W hB hold he K hK => fx_field 46 (.tmp 11) 1 _ _ rfl ((hold 11 (by decide)).trans o11) (by kernel_rfl) (hK _ (Below.refl _ _))⟩
      · exact .inl ⟨.inr ⟨18, false, _, rfl, ⟨⟨18, .guard⟩, by simp, rfl, rfl⟩, rfl, rfl, by decide, rfl⟩, fun a' W hB hold he K hK => wp_step_load 5 (.tmp 119) _ rfl _ (he ⟨21, .data⟩ (by simp) rfl) (load_u8 W _ _ _ (cell_bel L1.out hB)) (hK _ (Below.refl _ _))⟩
      · exact .inl ⟨.inr ⟨18, false, _, rfl, ⟨⟨18, .guard⟩, by simp, rfl, rfl⟩, rfl, rfl, by decide, rfl⟩, fun a' W hB hold he K hK => (by have h0 : a'.eval (.tmp 120) = _ := (he ⟨22, .data⟩ (by simp) rfl); exact wp_step_call 21 #[_] (by simp only [execOp, h0]; simp [go_sem] <;> (simp [Act.eval] at h0; simp [h0])) ((HSB.out W).mono (by rintro e1 w' ⟨rfl, hb⟩; exact ⟨_, rfl, hK _ hb⟩)))⟩
      · exact .inl ⟨.inr ⟨18, false, _, rfl, ⟨⟨18, .guard⟩, by simp, rfl, rfl⟩, rfl, rfl, by decide, rfl⟩, fun a' W hB hold he K hK => fx_bin .add 3 3 (.tmp 118) (.tmp 121) _ _ _ rfl (he ⟨20, .data⟩ (by simp) rfl) (he ⟨23, .data⟩ (by simp) rfl) rfl (HADD.out _) (hK _ (Below.refl _ _))⟩
      · exact .inl ⟨.inr ⟨18, false, _, rfl, ⟨⟨18, .guard⟩, by simp, rfl, rfl⟩, rfl, rfl, by decide, rfl⟩, fun a' W hB hold he K hK => fx_field 44 (.tmp 7) 1 _ _ rfl ((hold 7 (by decide)).trans o7) (by kernel_rfl) (hK _ (Below.refl _ _))⟩
      · exact .inl ⟨.inr ⟨18, false, _, rfl, ⟨⟨18, .guard⟩, by simp, rfl, rfl⟩, rfl, rfl, by decide, rfl⟩, fun a' W hB hold he K hK => wp_step_load 3 (.tmp 123) _ rfl _ (he ⟨25, .data⟩ (by simp) rfl) (load_int W _ _ _ (cell_bel GC1.out hB)) (hK _ (Below.refl _ _))⟩
      · exact .inl ⟨.inr ⟨18, false, _, rfl, ⟨⟨18, .guard⟩, by simp, rfl, rfl⟩, rfl, rfl, by decide, rfl⟩, fun a' W hB hold he K hK => fx_bin .gtr 3 3 (.tmp 122) (.tmp 124) _ _ _ rfl (he ⟨24, .data⟩ (by simp) rfl) (he ⟨26, .data⟩ (by simp) rfl) rfl (HGTR.out _) (hK _ (Below.refl _ _))⟩
      · exact .inl ⟨.inl rfl, fun a' W hB hold he K hK => fx_pick (.tmp 116) (.const (.bool true)) (.tmp 125) false _ rfl (he ⟨18, .data⟩ (by simp) rfl) (he ⟨27, .data⟩ (by simp) rfl) (hK _ (Below.refl _ _))⟩
      · exact .inl ⟨.inl rfl, fun a' W hB hold he K hK => fx_move (.tmp 126) _ (.inl rfl) (he ⟨28, .data⟩ (by simp) rfl) (hK _ (Below.refl _ _))⟩
      · exact .inl ⟨.inr ⟨29, false, _, rfl, ⟨⟨29, .guard⟩, by simp, rfl, rfl⟩, rfl, rfl, by decide, rfl⟩, fun a' W hB hold he K hK => fx_field 46 (.tmp 11) 0 _ _ rfl ((hold 11 (by decide)).trans o11) (by kernel_rfl) (hK _ (Below.refl _ _))⟩
      · exact .inl ⟨.inr ⟨29, false, _, rfl, ⟨⟨29, .guard⟩, by simp, rfl, rfl⟩, rfl, rfl, by decide, rfl⟩, fun a' W hB hold he K hK => wp_step_load 9 (.tmp 128) _ rfl _ (he ⟨30, .data⟩ (by simp) rfl) (load_str W _ _ _ (cell_bel L0.out hB)) (hK _ (Below.refl _ _))⟩
      · exact .inl ⟨.inr ⟨29, false, _, rfl, ⟨⟨29, .guard⟩, by simp, rfl, rfl⟩, rfl, rfl, by decide, rfl⟩, fun a' W hB hold he K hK => (by have h0 : a'.eval (.tmp 129) = _ := (he ⟨31, .data⟩ (by simp) rfl); exact wp_step_call 23 #[_] (by simp only [execOp, h0]; simp [go_sem] <;> (simp [Act.eval] at h0; simp [h0])) ((HM2.out W).mono (by rintro e1 w' ⟨rfl, hb⟩; exact ⟨_, rfl, hK _ hb⟩)))⟩
      · exact .inl ⟨.inr ⟨29, false, _, rfl, ⟨⟨29, .guard⟩, by simp, rfl, rfl⟩, rfl, rfl, by decide, rfl⟩, fun a' W hB hold he K hK => fx_not 4 (.tmp 130) _ rfl (he ⟨32, .data⟩ (by simp) rfl) (hK _ (Below.refl _ _))⟩
  intro W hB5
  simp only [putAll, List.length_cons, List.length_nil, Nat.reduceAdd, List.drop_succ_cons, List.drop_zero]
  have HB7 := hide (bel_trans HB6.out hB5)
  have HH7 := hide (HH6.out.below hB5 HH6.out.lt)
  have HL7 := hide (HL6.out.below hB5 HL6.out.lt)
  clear hB5
  clear HNS HREM HLSS HADD HGTR HSB HM2 L0 L1 L2 GC1 HL6 HH6 HB6
  have HFD := hide HFK.out.kind
  have v3 : IntKind.i64.wrap ((k : Int) + 1) = (k : Int) + 1 := by rw [w64]; unfold wrap64; have := HT.out.few; have := HN.out; have := HKN.out; omega
  have l1 := HL7.out.cell 1
  simp at l1
  have hkd := HKD.out
  clear HKD
  rw [hkd] at l1
  obtain ⟨m, u, hof, hm, hu, huo⟩ := snd_obj (snd_h1 HHO.out hkd)
  obtain ⟨cb1, off1, A3, c3, hA, u0, u1, u2, hl3, hFu⟩ := tp_at HC.out HB7.out hu
  injection hA with hA
  injection hA with hA1 hA2
  subst hA1
  subst hA2
  obtain ⟨U, hU⟩ : ∃ U, u.fs.length = U := ⟨_, rfl⟩
  rw [hU] at u2 hFu hl3
  have hm1 : (m : Int) < n := by have := HL.out; omega
  have hm0 : (0 : Int) ≤ m := by omega
  have HOB := hide (fun W9 (hW : Below w.heap.size w W9) => ty_object W9 u.nm u.sz A3 c3 u.fs U hU (Kd.C_below hFu hW))
  rw [huo] at HOB
  have L3 : Hid (W.cell? ⟨h, 3, none⟩ = some (.int .i64 (m : Int))) := hide (by have := HL7.out.cell 3; rw [hof] at this; exact this)
  have U0 := hide u0
  have U1 := hide u1
  have U2 := hide u2
  have M0 := hide (fun W : World => show (binOp .lss 3 (.int .i64 (m : Int)) (.int .i64 0)).run Try.prog W = .ok (.bool false) W by simp [go_sem])
  have M1 := hide (fun W : World => show (binOp .geq 3 (.int .i64 (m : Int)) (.int .i64 (n : Int))).run Try.prog W = .ok (.bool false) W by simp [go_sem]; omega)
  have L1 := hide l1
  clear u0 u1 u2 hU hFu hl3 huo hu hm hof hkd
  go_wp2_with fail
  refine wp_region_abs [0, 11, 14] [146, 147, 148, 149, 150, 151, 152, 153, 154, 155, 156, 157, 158, 159, 160, 161, 162, 163, 164, 165, 166, 167, 168, 169, 170, 171, 172, 173, 174, 175, 176, 177, 178, 179, 180, 181, 182, 183, 184, 185, 186, 187, 188, 189, 190, 191]
    [.bool true, .bool true, .pointer (some ⟨h, 3, none⟩), .int .i64 (m : Int), .bool false, .bool false, .pointer (some ⟨h, 3, none⟩), .int .i64 (m : Int), .slice (some ⟨cb, off, none⟩) n c, .int .i64 (n : Int), .bool false, .bool false, .bool false, .slice (some ⟨cb, off, none⟩) n c, .pointer (some ⟨h, 3, none⟩), .int .i64 (m : Int), .pointer (some ⟨cb, off + m * 3, none⟩), .agg #[.string u.nm, .int .i64 u.sz, .slice A3 U c3], .bool true, .bool false, .bool false, .bool false, .bool false, .pointer (some ⟨h, 1, none⟩), .int .u8 1, .bool false, .bool false, undef, .bool false, .bool false, undef, undef, undef, undef, undef, undef, undef, undef, undef, undef, undef, undef, undef, undef, undef, .bool false] (by kernel_rfl) (by simp) rfl (by kernel_rfl) (by kernel_rfl) (by kernel_rfl) (by simp) (by decide) ?_ ?_
  · intro Q' a0 hT
    have o0 : a0.eval (.tmp 0) = .slice (some ⟨cb, off, none⟩) n c := hT 0 (by simp)
    have o11 : a0.eval (.tmp 11) = .pointer (some ⟨h, 0, none⟩) := hT 11 (by simp)
    have o14 : a0.eval (.tmp 14) = .bool true := hT 14 (by simp)
    clear hT
    as_aux_lemma =>
      refine ⟨?_, ?_, ?_, ?_, ?_, ?_, ?_, ?_, ?_, ?_, ?_, ?_, ?_, ?_, ?_, ?_, ?_, ?_, ?_, ?_, ?_, ?_, ?_, ?_, ?_, ?_, ?_, ?_, ?_, ?_, ?_, ?_, ?_, ?_, ?_, ?_, ?_, ?_, ?_, ?_, ?_, ?_, ?_, ?_, ?_, ?_, trivial⟩
      · exact .inl ⟨.inl rfl, fun a' W hB hold he K hK => fx_move (.tmp 14) _ (.inl rfl) ((hold 14 (by decide)).trans o14) (hK _ (Below.refl _ _))⟩
      · exact .inl ⟨.inl rfl, fun a' W hB hold he K hK => fx_move (.tmp 146) _ (.inl rfl) (he ⟨0, .data⟩ (by simp) rfl) (hK _ (Below.refl _ _))⟩
      · exact .inl ⟨.inr ⟨1, true, _, rfl, ⟨⟨1, .guard⟩, by simp, rfl, rfl⟩, rfl, rfl, by decide, rfl⟩, fun a' W hB hold he K hK => fx_field 46 (.tmp 11) 3 _ _ rfl ((hold 11 (by decide)).trans o11) (by kernel_rfl) (hK _ (Below.refl _ _))⟩
      · exact .inl ⟨.inr ⟨1, true, _, rfl, ⟨⟨1, .guard⟩, by simp, rfl, rfl⟩, rfl, rfl, by decide, rfl⟩, fun a' W hB hold he K hK => wp_step_load 3 (.tmp 148) _ rfl _ (he ⟨2, .data⟩ (by simp) rfl) (load_int W _ _ _ (cell_bel L3.out hB)) (hK _ (Below.refl _ _))⟩
      · exact .inl ⟨.inr ⟨1, true, _, rfl, ⟨⟨1, .guard⟩, by simp, rfl, rfl⟩, rfl, rfl, by decide, rfl⟩, fun a' W hB hold he K hK => fx_bin .lss 3 3 (.tmp 149) (.const (.int .i64 0)) _ _ _ rfl (he ⟨3, .data⟩ (by simp) rfl) rfl rfl (M0.out _) (hK _ (Below.refl _ _))⟩
      · exact .inl ⟨.inr ⟨1, true, _, rfl, ⟨⟨1, .guard⟩, by simp, rfl, rfl⟩, rfl, rfl, by decide, rfl⟩, fun a' W hB hold he K hK => fx_move (.tmp 150) _ (.inl rfl) (he ⟨4, .data⟩ (by simp) rfl) (hK _ (Below.refl _ _))⟩
      · exact .inl ⟨.inr ⟨5, false, _, rfl, ⟨⟨5, .guard⟩, by simp, rfl, rfl⟩, rfl, rfl, by decide, rfl⟩, fun a' W hB hold he K hK => fx_field 46 (.tmp 11) 3 _ _ rfl ((hold 11 (by decide)).trans o11) (by kernel_rfl) (hK _ (Below.refl _ _))⟩
      · exact .inl ⟨.inr ⟨5, false, _, rfl, ⟨⟨5, .guard⟩, by simp, rfl, rfl⟩, rfl, rfl, by decide, rfl⟩, fun a' W hB hold he K hK => wp_step_load 3 (.tmp 152) _ rfl _ (he ⟨6, .data⟩ (by simp) rfl) (load_int W _ _ _ (cell_bel L3.out hB)) (hK _ (Below.refl _ _))⟩
      · exact .inl ⟨.inr ⟨5, false, _, rfl, ⟨⟨5, .guard⟩, by simp, rfl, rfl⟩, rfl, rfl, by decide, rfl⟩, fun a' W hB hold he K hK => fx_move (.tmp 0) _ (.inl rfl) ((hold 0 (by decide)).trans o0) (hK _ (Below.refl _ _))⟩
      · exact .inl ⟨.inr ⟨5, false, _, rfl, ⟨⟨5, .guard⟩, by simp, rfl, rfl⟩, rfl, rfl, by decide, rfl⟩, fun a' W hB hold he K hK => (by have h0 : a'.eval (.tmp 154) = .slice (some ⟨cb, off, none⟩) n c := (he ⟨8, .data⟩ (by simp) rfl); have h1 : a'.tmps[154]?.getD undef = .slice (some ⟨cb, off, none⟩) n c := (by simpa [Act.eval] using h0); exact wp_step_run _ (by simp only [execOp]; simp [go_sem]; rw [h1]; rfl) (hK _ (Below.refl _ _)))⟩
      · exact .inl ⟨.inr ⟨5, false, _, rfl, ⟨⟨5, .guard⟩, by simp, rfl, rfl⟩, rfl, rfl, by decide, rfl⟩, fun a' W hB hold he K hK => fx_bin .geq 3 3 (.tmp 153) (.tmp 155) _ _ _ rfl (he ⟨7, .data⟩ (by simp) rfl) (he ⟨9, .data⟩ (by simp) rfl) rfl (M1.out _) (hK _ (Below.refl _ _))⟩
      · exact .inl ⟨.inr ⟨1, true, _, rfl, ⟨⟨1, .guard⟩, by simp, rfl, rfl⟩, rfl, rfl, by decide, rfl⟩, fun a' W hB hold he K hK => fx_pick (.tmp 151) (.const (.bool true)) (.tmp 156) false _ rfl (he ⟨5, .data⟩ (by simp) rfl) (he ⟨10, .data⟩ (by simp) rfl) (hK _ (Below.refl _ _))⟩
      · exact .inl ⟨.inr ⟨1, true, _, rfl, ⟨⟨1, .guard⟩, by simp, rfl, rfl⟩, rfl, rfl, by decide, rfl⟩, fun a' W hB hold he K hK => fx_move (.tmp 157) _ (.inl rfl) (he ⟨11, .data⟩ (by simp) rfl) (hK _ (Below.refl _ _))⟩
      · exact .inl ⟨.inr ⟨12, false, _, rfl, ⟨⟨12, .guard⟩, by simp, rfl, rfl⟩, rfl, rfl, by decide, rfl⟩, fun a' W hB hold he K hK => fx_move (.tmp 0) _ (.inl rfl) ((hold 0 (by decide)).trans o0) (hK _ (Below.refl _ _))⟩
      · exact .inl ⟨.inr ⟨12, false, _, rfl, ⟨⟨12, .guard⟩, by simp, rfl, rfl⟩, rfl, rfl, by decide, rfl⟩, fun a' W hB hold he K hK => fx_field 46 (.tmp 11) 3 _ _ rfl ((hold 11 (by decide)).trans o11) (by kernel_rfl) (hK _ (Below.refl _ _))⟩
      · exact .inl ⟨.inr ⟨12, false, _, rfl, ⟨⟨12, .guard⟩, by simp, rfl, rfl⟩, rfl, rfl, by decide, rfl⟩, fun a' W hB hold he K hK => wp_step_load 3 (.tmp 160) _ rfl _ (he ⟨14, .data⟩ (by simp) rfl) (load_int W _ _ _ (cell_bel L3.out hB)) (hK _ (Below.refl _ _))⟩
      · exact .inl ⟨.inr ⟨12, false, _, rfl, ⟨⟨12, .guard⟩, by simp, rfl, rfl⟩, rfl, rfl, by decide, rfl⟩, fun a' W hB hold he K hK => (by have h0 : a'.eval (.tmp 159) = _ := (he ⟨13, .data⟩ (by simp) rfl); have h1 : a'.eval (.tmp 161) = _ := (he ⟨15, .data⟩ (by simp) rfl); exact wp_step_run (.pointer (some ⟨cb, off + m * 3, none⟩)) (by simp only [execOp, h0, h1]; go_simp) (hK _ (Below.refl _ _)))⟩
      · exact .inl ⟨.inr ⟨12, false, _, rfl, ⟨⟨12, .guard⟩, by simp, rfl, rfl⟩, rfl, rfl, by decide, rfl⟩, fun a' W hB hold he K hK => wp_step_load 44 (.tmp 162) _ rfl _ (he ⟨16, .data⟩ (by simp) rfl) (ld_tpo W _ _ _ _ _ _ _ (cell_bel U0.out hB) (cell_bel U1.out hB) (cell_bel U2.out hB)) (hK _ (Below.refl _ _))⟩
      · exact .inl ⟨.inr ⟨12, false, _, rfl, ⟨⟨12, .guard⟩, by simp, rfl, rfl⟩, rfl, rfl, by decide, rfl⟩, fun a' W hB hold he K hK => (by have h0 : a'.eval (.tmp 163) = _ := (he ⟨17, .data⟩ (by simp) rfl); exact wp_step_call 26 #[_] (by simp only [execOp, h0]; simp [go_sem] <;> (simp [Act.eval] at h0; simp [h0])) ((HOB.out W (bel_trans HB7.out hB)).mono (by rintro e1 w' ⟨rfl, hb⟩; exact ⟨_, rfl, hK _ hb⟩)))⟩
      · exact .inl ⟨.inr ⟨12, false, _, rfl, ⟨⟨12, .guard⟩, by simp, rfl, rfl⟩, rfl, rfl, by decide, rfl⟩, fun a' W hB hold he K hK => fx_not 4 (.tmp 164) _ rfl (he ⟨18, .data⟩ (by simp) rfl) (hK _ (Below.refl _ _))⟩
      · exact .inl ⟨.inr ⟨1, true, _, rfl, ⟨⟨1, .guard⟩, by simp, rfl, rfl⟩, rfl, rfl, by decide, rfl⟩, fun a' W hB hold he K hK => fx_pick (.tmp 158) (.const (.bool true)) (.tmp 165) false _ rfl (he ⟨12, .data⟩ (by simp) rfl) (he ⟨19, .data⟩ (by simp) rfl) (hK _ (Below.refl _ _))⟩
      · exact .inl ⟨.inl rfl, fun a' W hB hold he K hK => fx_pick (.tmp 147) (.tmp 166) (.const (.bool false)) true _ rfl (he ⟨1, .data⟩ (by simp) rfl) (he ⟨20, .data⟩ (by simp) rfl) (hK _ (Below.refl _ _))⟩
      · exact .inl ⟨.inl rfl, fun a' W hB hold he K hK => fx_move (.tmp 167) _ (.inl rfl) (he ⟨21, .data⟩ (by simp) rfl) (hK _ (Below.refl _ _))⟩
      · exact .inl ⟨.inr ⟨22, false, _, rfl, ⟨⟨22, .guard⟩, by simp, rfl, rfl⟩, rfl, rfl, by decide, rfl⟩, fun a' W hB hold he K hK => fx_field 46 (.tmp 11) 1 _ _ rfl ((hold 11 (by decide)).trans o11) (by kernel_rfl) (hK _ (Below.refl _ _))⟩
      · exact .inl ⟨.inr ⟨22, false, _, rfl, ⟨⟨22, .guard⟩, by simp, rfl, rfl⟩, rfl, rfl, by decide, rfl⟩, fun a' W hB hold he K hK => wp_step_load 5 (.tmp 169) _ rfl _ (he ⟨23, .data⟩ (by simp) rfl) (load_u8 W _ _ _ (cell_bel L1.out hB)) (hK _ (Below.refl _ _))⟩
      · exact .inl ⟨.inr ⟨22, false, _, rfl, ⟨⟨22, .guard⟩, by simp, rfl, rfl⟩, rfl, rfl, by decide, rfl⟩, fun a' W hB hold he K hK => fx_bin .neq 5 5 (.tmp 170) (.const (.int .u8 1)) _ _ _ rfl (he ⟨24, .data⟩ (by simp) rfl) rfl (by kernel_rfl) (by kernel_rfl) (hK _ (Below.refl _ _))⟩
      · exact .inl ⟨.inr ⟨22, false, _, rfl, ⟨⟨22, .guard⟩, by simp, rfl, rfl⟩, rfl, rfl, by decide, rfl⟩, fun a' W hB hold he K hK => fx_move (.tmp 171) _ (.inl rfl) (he ⟨25, .data⟩ (by simp) rfl) (hK _ (Below.refl _ _))⟩
      · exact .inr ⟨rfl, rfl, 26, true, _, rfl, ⟨⟨26, .guard⟩, by simp, rfl, rfl⟩, rfl, rfl, by decide, by intro h; cases h⟩
      · exact .inl ⟨.inr ⟨22, false, _, rfl, ⟨⟨22, .guard⟩, by simp, rfl, rfl⟩, rfl, rfl, by decide, rfl⟩, fun a' W hB hold he K hK => fx_pick (.tmp 172) (.tmp 173) (.const (.bool false)) false _ rfl (he ⟨26, .data⟩ (by simp) rfl) rfl (hK _ (Below.refl _ _))⟩
      · exact .inl ⟨.inr ⟨22, false, _, rfl, ⟨⟨22, .guard⟩, by simp, rfl, rfl⟩, rfl, rfl, by decide, rfl⟩, fun a' W hB hold he K hK => fx_move (.tmp 174) _ (.inl rfl) (he ⟨28, .data⟩ (by simp) rfl) (hK _ (Below.refl _ _))⟩
      · exact .inr ⟨rfl, rfl, 29, true, _, rfl, ⟨⟨29, .guard⟩, by simp, rfl, rfl⟩, rfl, rfl, by decide, by intro h; cases h⟩
      · exact .inr ⟨rfl, rfl, 29, true, _, rfl, ⟨⟨29, .guard⟩, by simp, rfl, rfl⟩, rfl, rfl, by decide, by intro h; cases h⟩
      · exact .inr ⟨rfl, rfl, 29, true, _, rfl, ⟨⟨29, .guard⟩, by simp, rfl, rfl⟩, rfl, rfl, by decide, by intro h; cases h⟩
      · exact .inr ⟨rfl, rfl, 29, true, _, rfl, ⟨⟨29, .guard⟩, by simp, rfl, rfl⟩, rfl, rfl, by decide, by intro h; cases h⟩
      · exact .inr ⟨rfl, rfl, 33, false, _, rfl, ⟨⟨33, .guard⟩, by simp, rfl, rfl⟩, rfl, rfl, by decide, by intro h; cases h⟩
      · exact .inr ⟨rfl, rfl, 33, false, _, rfl, ⟨⟨33, .guard⟩, by simp, rfl, rfl⟩, rfl, rfl, by decide, by intro h; cases h⟩
      · exact .inr ⟨rfl, rfl, 33, false, _, rfl, ⟨⟨33, .guard⟩, by simp, rfl, rfl⟩, rfl, rfl, by decide, by intro h; cases h⟩
      · exact .inr ⟨rfl, rfl, 33, false, _, rfl, ⟨⟨33, .guard⟩, by simp, rfl, rfl⟩, rfl, rfl, by decide, by intro h; cases h⟩
      · exact .inr ⟨rfl, rfl, 33, false, _, rfl, ⟨⟨33, .guard⟩, by simp, rfl, rfl⟩, rfl, rfl, by decide, by intro h; cases h⟩
      · exact .inr ⟨rfl, rfl, 33, false, _, rfl, ⟨⟨33, .guard⟩, by simp, rfl, rfl⟩, rfl, rfl, by decide, by intro h; cases h⟩
      · exact .inr ⟨rfl, rfl, 33, false, _, rfl, ⟨⟨33, .guard⟩, by simp, rfl, rfl⟩, rfl, rfl, by decide, by intro h; cases h⟩
      · exact .inr ⟨rfl, rfl, 33, false, _, rfl, ⟨⟨33, .guard⟩, by simp, rfl, rfl⟩, rfl, rfl, by decide, by intro h; cases h⟩
      · exact .inr ⟨rfl, rfl, 33, false, _, rfl, ⟨⟨33, .guard⟩, by simp, rfl, rfl⟩, rfl, rfl, by decide, by intro h; cases h⟩
      · exact .inr ⟨rfl, rfl, 33, false, _, rfl, ⟨⟨33, .guard⟩, by simp, rfl, rfl⟩, rfl, rfl, by decide, by intro h; cases h⟩
      · exact .inr ⟨rfl, rfl, 29, true, _, rfl, ⟨⟨29, .guard⟩, by simp, rfl, rfl⟩, rfl, rfl, by decide, by intro h; cases h⟩
      · exact .inl ⟨.inr ⟨22, false, _, rfl, ⟨⟨22, .guard⟩, by simp, rfl, rfl⟩, rfl, rfl, by decide, rfl⟩, fun a' W hB hold he K hK => fx_pick (.tmp 175) (.tmp 190) (.const (.bool false)) false _ rfl (he ⟨29, .data⟩ (by simp) rfl) rfl (hK _ (Below.refl _ _))⟩
  intro W8 hB8
  simp only [putAll, List.length_cons, List.length_nil, Nat.reduceAdd, List.drop_succ_cons, List.drop_zero]
  have HB8 := hide (bel_trans HB7.out hB8)
  have HH8 := hide (HH7.out.below hB8 HH7.out.lt)
  replace L1 := hide (cell_bel L1.out hB8)
  replace L3 := hide (cell_bel L3.out hB8)
  replace U2 := hide (cell_bel U2.out hB8)
  clear hB8 l1
  go_wp2_with fail
  refine wp_region_abs [11] [193, 194, 195, 196, 197, 198, 199, 200, 201, 202, 203, 204, 205, 206, 207, 208, 209, 210, 211, 212, 213, 214, 215, 216, 217, 218, 219, 220, 221, 222, 223, 224, 225, 226, 227]
    [.pointer (some ⟨h, 1, none⟩), .int .u8 1, .bool false, .bool false, undef, undef, undef, undef, undef, undef, undef, undef, undef, undef, undef, undef, .bool false, .bool false, .pointer (some ⟨h, 1, none⟩), .int .u8 1, .bool false, .bool false, undef, undef, undef, undef, undef, undef, undef, undef, undef, undef, undef, undef, .bool false] (by kernel_rfl) (by simp) rfl (by kernel_rfl) (by kernel_rfl) (by kernel_rfl) (by simp) (by decide) ?_ ?_
  · intro Q' a0 hT
    have o11 : a0.eval (.tmp 11) = .pointer (some ⟨h, 0, none⟩) := hT 11 (by simp)
    clear hT
    as_aux_lemma =>
      refine ⟨?_, ?_, ?_, ?_, ?_, ?_, ?_, ?_, ?_, ?_, ?_, ?_, ?_, ?_, ?_, ?_, ?_, ?_, ?_, ?_, ?_, ?_, ?_, ?_, ?_, ?_, ?_, ?_, ?_, ?_, ?_, ?_, ?_, ?_, ?_, trivial⟩
      · exact .inl ⟨.inl rfl, fun a' W hB hold he K hK => fx_field 46 (.tmp 11) 1 _ _ rfl ((hold 11 (by decide)).trans o11) (by kernel_rfl) (hK _ (Below.refl _ _))⟩
      · exact .inl ⟨.inl rfl, fun a' W hB hold he K hK => wp_step_load 5 (.tmp 193) _ rfl _ (he ⟨0, .data⟩ (by simp) rfl) (load_u8 W _ _ _ (cell_bel L1.out hB)) (hK _ (Below.refl _ _))⟩
      · exact .inl ⟨.inl rfl, fun a' W hB hold he K hK => fx_bin .eql 5 5 (.tmp 194) (.const (.int .u8 2)) _ _ _ rfl (he ⟨1, .data⟩ (by simp) rfl) rfl (by kernel_rfl) (by kernel_rfl) (hK _ (Below.refl _ _))⟩
      · exact .inl ⟨.inl rfl, fun a' W hB hold he K hK => fx_move (.tmp 195) _ (.inl rfl) (he ⟨2, .data⟩ (by simp) rfl) (hK _ (Below.refl _ _))⟩
      · exact .inr ⟨rfl, rfl, 3, true, _, rfl, ⟨⟨3, .guard⟩, by simp, rfl, rfl⟩, rfl, rfl, by decide, by intro h; cases h⟩
      · exact .inr ⟨rfl, rfl, 3, true, _, rfl, ⟨⟨3, .guard⟩, by simp, rfl, rfl⟩, rfl, rfl, by decide, by intro h; cases h⟩
      · exact .inr ⟨rfl, rfl, 3, true, _, rfl, ⟨⟨3, .guard⟩, by simp, rfl, rfl⟩, rfl, rfl, by decide, by intro h; cases h⟩
      · exact .inr ⟨rfl, rfl, 3, true, _, rfl, ⟨⟨3, .guard⟩, by simp, rfl, rfl⟩, rfl, rfl, by decide, by intro h; cases h⟩
      · exact .inr ⟨rfl, rfl, 3, true, _, rfl, ⟨⟨3, .guard⟩, by simp, rfl, rfl⟩, rfl, rfl, by decide, by intro h; cases h⟩
      · exact .inr ⟨rfl, rfl, 3, true, _, rfl, ⟨⟨3, .guard⟩, by simp, rfl, rfl⟩, rfl, rfl, by decide, by intro h; cases h⟩
      · exact .inr ⟨rfl, rfl, 3, true, _, rfl, ⟨⟨3, .guard⟩, by simp, rfl, rfl⟩, rfl, rfl, by decide, by intro h; cases h⟩
      · exact .inr ⟨rfl, rfl, 3, true, _, rfl, ⟨⟨3, .guard⟩, by simp, rfl, rfl⟩, rfl, rfl, by decide, by intro h; cases h⟩
      · exact .inr ⟨rfl, rfl, 3, true, _, rfl, ⟨⟨3, .guard⟩, by simp, rfl, rfl⟩, rfl, rfl, by decide, by intro h; cases h⟩
      · exact .inr ⟨rfl, rfl, 3, true, _, rfl, ⟨⟨3, .guard⟩, by simp, rfl, rfl⟩, rfl, rfl, by decide, by intro h; cases h⟩
      · exact .inr ⟨rfl, rfl, 3, true, _, rfl, ⟨⟨3, .guard⟩, by simp, rfl, rfl⟩, rfl, rfl, by decide, by intro h; cases h⟩
      · exact .inr ⟨rfl, rfl, 3, true, _, rfl, ⟨⟨3, .guard⟩, by simp, rfl, rfl⟩, rfl, rfl, by decide, by intro h; cases h⟩
      · exact .inl ⟨.inl rfl, fun a' W hB hold he K hK => fx_pick (.tmp 196) (.tmp 208) (.const (.bool false)) false _ rfl (he ⟨3, .data⟩ (by simp) rfl) rfl (hK _ (Below.refl _ _))⟩
      · exact .inl ⟨.inl rfl, fun a' W hB hold he K hK => fx_move (.tmp 209) _ (.inl rfl) (he ⟨16, .data⟩ (by simp) rfl) (hK _ (Below.refl _ _))⟩
      · exact .inl ⟨.inr ⟨17, false, _, rfl, ⟨⟨17, .guard⟩, by simp, rfl, rfl⟩, rfl, rfl, by decide, rfl⟩, fun a' W hB hold he K hK => fx_field 46 (.tmp 11) 1 _ _ rfl ((hold 11 (by decide)).trans o11) (by kernel_rfl) (hK _ (Below.refl _ _))⟩
      · exact .inl ⟨.inr ⟨17, false, _, rfl, ⟨⟨17, .guard⟩, by simp, rfl, rfl⟩, rfl, rfl, by decide, rfl⟩, fun a' W hB hold he K hK => wp_step_load 5 (.tmp 211) _ rfl _ (he ⟨18, .data⟩ (by simp) rfl) (load_u8 W _ _ _ (cell_bel L1.out hB)) (hK _ (Below.refl _ _))⟩
      · exact .inl ⟨.inr ⟨17, false, _, rfl, ⟨⟨17, .guard⟩, by simp, rfl, rfl⟩, rfl, rfl, by decide, rfl⟩, fun a' W hB hold he K hK => fx_bin .eql 5 5 (.tmp 212) (.const (.int .u8 4)) _ _ _ rfl (he ⟨19, .data⟩ (by simp) rfl) rfl (by kernel_rfl) (by kernel_rfl) (hK _ (Below.refl _ _))⟩
      · exact .inl ⟨.inr ⟨17, false, _, rfl, ⟨⟨17, .guard⟩, by simp, rfl, rfl⟩, rfl, rfl, by decide, rfl⟩, fun a' W hB hold he K hK => fx_move (.tmp 213) _ (.inl rfl) (he ⟨20, .data⟩ (by simp) rfl) (hK _ (Below.refl _ _))⟩
      · exact .inr ⟨rfl, rfl, 21, true, _, rfl, ⟨⟨21, .guard⟩, by simp, rfl, rfl⟩, rfl, rfl, by decide, by intro h; cases h⟩
      · exact .inr ⟨rfl, rfl, 21, true, _, rfl, ⟨⟨21, .guard⟩, by simp, rfl, rfl⟩, rfl, rfl, by decide, by intro h; cases h⟩
      · exact .inr ⟨rfl, rfl, 21, true, _, rfl, ⟨⟨21, .guard⟩, by simp, rfl, rfl⟩, rfl, rfl, by decide, by intro h; cases h⟩
      · exact .inr ⟨rfl, rfl, 21, true, _, rfl, ⟨⟨21, .guard⟩, by simp, rfl, rfl⟩, rfl, rfl, by decide, by intro h; cases h⟩
      · exact .inr ⟨rfl, rfl, 21, true, _, rfl, ⟨⟨21, .guard⟩, by simp, rfl, rfl⟩, rfl, rfl, by decide, by intro h; cases h⟩
      · exact .inr ⟨rfl, rfl, 21, true, _, rfl, ⟨⟨21, .guard⟩, by simp, rfl, rfl⟩, rfl, rfl, by decide, by intro h; cases h⟩
      · exact .inr ⟨rfl, rfl, 21, true, _, rfl, ⟨⟨21, .guard⟩, by simp, rfl, rfl⟩, rfl, rfl, by decide, by intro h; cases h⟩
      · exact .inr ⟨rfl, rfl, 21, true, _, rfl, ⟨⟨21, .guard⟩, by simp, rfl, rfl⟩, rfl, rfl, by decide, by intro h; cases h⟩
      · exact .inr ⟨rfl, rfl, 21, true, _, rfl, ⟨⟨21, .guard⟩, by simp, rfl, rfl⟩, rfl, rfl, by decide, by intro h; cases h⟩
      · exact .inr ⟨rfl, rfl, 21, true, _, rfl, ⟨⟨21, .guard⟩, by simp, rfl, rfl⟩, rfl, rfl, by decide, by intro h; cases h⟩
      · exact .inr ⟨rfl, rfl, 21, true, _, rfl, ⟨⟨21, .guard⟩, by simp, rfl, rfl⟩, rfl, rfl, by decide, by intro h; cases h⟩
      · exact .inr ⟨rfl, rfl, 21, true, _, rfl, ⟨⟨21, .guard⟩, by simp, rfl, rfl⟩, rfl, rfl, by decide, by intro h; cases h⟩
      · exact .inl ⟨.inr ⟨17, false, _, rfl, ⟨⟨17, .guard⟩, by simp, rfl, rfl⟩, rfl, rfl, by decide, rfl⟩, fun a' W hB hold he K hK => fx_pick (.tmp 214) (.tmp 226) (.const (.bool false)) false _ rfl (he ⟨21, .data⟩ (by simp) rfl) rfl (hK _ (Below.refl _ _))⟩
  intro W9 hB9
  simp only [putAll, List.length_cons, List.length_nil, Nat.reduceAdd, List.drop_succ_cons, List.drop_zero]
  have HB9 := hide (bel_trans HB8.out hB9)
  have HH9 := hide (HH8.out.below hB9 HH8.out.lt)
  clear hB9
  go_wp2_with fail
  refine ⟨?_, by have := HKN.out; simp [sndMu, intOf]; omega⟩
  unfold SndWI
  refine ⟨_, _, _, _, _, _, _, _, _, _, _, _, _, _, _, _, _, _, _, _, _, _, _, _, _, _, _, _, _, _, _, _, _, _, _, _, _, _, _, _, _, _, _, _, _, _, _, _, _, _, _, _, _, _, _, _, _, _, _, _, _, _, _, _, _, _, _, _, _, _, _, _, _, _, _, _, _, _, _, _, _, _, _, _, _, _, _, _, _, _, _, _, _, _, _, _, _, _, _, _, _, _, _, _, _, _, _, _, _, _, _, _, _, _, _, _, _, _, _, _, _, _, _, _, _, _, _, _, _, _, _, _, _, _, _, _, _, _, _, _, _, _, _, _, _, _, _, _, _, _, _, _, _, _, _, _, ?_, rfl⟩
  exact ⟨k + 1, by have := HKN.out; omega, by rw [show (((k + 1 : Nat)) : Int) = (k : Int) + 1 by omega], HH9.out, HB9.out⟩
end Go.Proofs.Ytkflofjcjolehaa

/-! Types: a round of Sound's inner loop. -/
namespace Go.Proofs.Ytkflofjcjolehaa
open Go.RowKit Go.Proofs.YtkflofjcjolehaaW.PrintWords
set_option maxHeartbeats 40000000
set_option maxRecDepth 1000000
set_option linter.unusedSimpArgs false
set_option linter.unusedVariables false

theorem snd_way2 (s1 s3 s4 s5 s6 s8 s9 s15 s16 s17 s18 s19 s20 s21 s22 s23 s24 s25 s26 s27 s28 s29 s30 s31 s32 s33 s34 s35 s36 s37 s38 s39 s40 s41 s42 s43 s44 s45 s46 s47 s48 s49 s50 s51 s52 s53 s54 s55 s56 s57 s58 s59 s60 s61 s62 s63 s64 s65 s66 s67 s68 s69 s70 s71 s72 s73 s74 s75 s76 s77 s78 s229 s230 s231 s232 s233 s234 s235 s236 s237 s238 s239 s240 s241 s242 s243 s244 s245 s246 s247 s248 s249 s250 s251 s252 s253 s254 s255 s256 s257 s258 s259 s260 s261 s262 s263 s264 : Value) (s2 s11 s12 s13 s14 s79 s80 s81 s82 s83 s84 s85 s86 s87 s88 s89 s90 s91 s92 s93 s94 s95 s96 s97 s98 s99 s100 s101 s102 s103 s104 s105 s106 s107 s108 s109 s110 s111 s112 s113 s114 s115 s116 s117 s118 s119 s120 s121 s122 s123 s124 s125 s126 s127 s128 s129 s130 s131 s132 s133 s134 s135 s136 s137 s138 s139 s140 s141 s142 s143 s144 s145 s146 s147 s148 s149 s150 s151 s152 s153 s154 s155 s156 s157 s158 s159 s160 s161 s162 s163 s164 s165 s166 s167 s168 s169 s170 s171 s172 s173 s174 s175 s176 s177 s178 s179 s180 s181 s182 s183 s184 s185 s186 s187 s188 s189 s190 s191 s192 s193 s194 s195 s196 s197 s198 s199 s200 s201 s202 s203 s204 s205 s206 s207 s208 s209 s210 s211 s212 s213 s214 s215 s216 s217 s218 s219 s220 s221 s222 s223 s224 s225 s226 s227 s228 : Value) (w : World) (cb off n c : Nat) (l : List Tp) (i : Nat) (t : Tp) (A2 : Option Addr) (N c2 g : Nat) (wr : World) (X : SndIn w l cb off n c i t A2 N c2) (k : Nat) (hkN : k < N) (hH : Has wr g 44 #[.string t.nm, .int .i64 t.sz, .slice A2 N c2]) (hB : Below w.heap.size w wr) (f : Fl) (hf : t.fs[k]? = some f) (hkd : f.kd = 2) (QX : Exit → Act → World → Prop) :
    Code.wp Try.prog sndInner (Exit.then (fun a' w'' => SndWI s1 s3 s4 s5 s6 s8 s9 s15 s16 s17 s18 s19 s20 s21 s22 s23 s24 s25 s26 s27 s28 s29 s30 s31 s32 s33 s34 s35 s36 s37 s38 s39 s40 s41 s42 s43 s44 s45 s46 s47 s48 s49 s50 s51 s52 s53 s54 s55 s56 s57 s58 s59 s60 s61 s62 s63 s64 s65 s66 s67 s68 s69 s70 s71 s72 s73 s74 s75 s76 s77 s78 s229 s230 s231 s232 s233 s234 s235 s236 s237 s238 s239 s240 s241 s242 s243 s244 s245 s246 s247 s248 s249 s250 s251 s252 s253 s254 s255 s256 s257 s258 s259 s260 s261 s262 s263 s264 w cb off n c g t.nm t.sz A2 N c2 a' w'' ∧ sndMu N a' w'' < sndMu N ⟨#[.slice (some ⟨cb, off, none⟩) n c, s1, s2, s3, s4, s5, s6, .pointer (some ⟨g, 0, none⟩), s8, s9, .int .i64 (k : Int), s11, s12, s13, s14, s15, s16, s17, s18, s19, s20, s21, s22, s23, s24, s25, s26, s27, s28, s29, s30, s31, s32, s33, s34, s35, s36, s37, s38, s39, s40, s41, s42, s43, s44, s45, s46, s47, s48, s49, s50, s51, s52, s53, s54, s55, s56, s57, s58, s59, s60, s61, s62, s63, s64, s65, s66, s67, s68, s69, s70, s71, s72, s73, s74, s75, s76, s77, s78, s79, s80, s81, s82, s83, s84, s85, s86, s87, s88, s89, s90, s91, s92, s93, s94, s95, s96, s97, s98, s99, s100, s101, s102, s103, s104, s105, s106, s107, s108, s109, s110, s111, s112, s113, s114, s115, s116, s117, s118, s119, s120, s121, s122, s123, s124, s125, s126, s127, s128, s129, s130, s131, s132, s133, s134, s135, s136, s137, s138, s139, s140, s141, s142, s143, s144, s145, s146, s147, s148, s149, s150, s151, s152, s153, s154, s155, s156, s157, s158, s159, s160, s161, s162, s163, s164, s165, s166, s167, s168, s169, s170, s171, s172, s173, s174, s175, s176, s177, s178, s179, s180, s181, s182, s183, s184, s185, s186, s187, s188, s189, s190, s191, s192, s193, s194, s195, s196, s197, s198, s199, s200, s201, s202, s203, s204, s205, s206, s207, s208, s209, s210, s211, s212, s213, s214, s215, s216, s217, s218, s219, s220, s221, s222, s223, s224, s225, s226, s227, s228, s229, s230, s231, s232, s233, s234, s235, s236, s237, s238, s239, s240, s241, s242, s243, s244, s245, s246, s247, s248, s249, s250, s251, s252, s253, s254, s255, s256, s257, s258, s259, s260, s261, s262, s263, s264], []⟩ wr) QX) ⟨#[.slice (some ⟨cb, off, none⟩) n c, s1, s2, s3, s4, s5, s6, .pointer (some ⟨g, 0, none⟩), s8, s9, .int .i64 (k : Int), s11, s12, s13, s14, s15, s16, s17, s18, s19, s20, s21, s22, s23, s24, s25, s26, s27, s28, s29, s30, s31, s32, s33, s34, s35, s36, s37, s38, s39, s40, s41, s42, s43, s44, s45, s46, s47, s48, s49, s50, s51, s52, s53, s54, s55, s56, s57, s58, s59, s60, s61, s62, s63, s64, s65, s66, s67, s68, s69, s70, s71, s72, s73, s74, s75, s76, s77, s78, s79, s80, s81, s82, s83, s84, s85, s86, s87, s88, s89, s90, s91, s92, s93, s94, s95, s96, s97, s98, s99, s100, s101, s102, s103, s104, s105, s106, s107, s108, s109, s110, s111, s112, s113, s114, s115, s116, s117, s118, s119, s120, s121, s122, s123, s124, s125, s126, s127, s128, s129, s130, s131, s132, s133, s134, s135, s136, s137, s138, s139, s140, s141, s142, s143, s144, s145, s146, s147, s148, s149, s150, s151, s152, s153, s154, s155, s156, s157, s158, s159, s160, s161, s162, s163, s164, s165, s166, s167, s168, s169, s170, s171, s172, s173, s174, s175, s176, s177, s178, s179, s180, s181, s182, s183, s184, s185, s186, s187, s188, s189, s190, s191, s192, s193, s194, s195, s196, s197, s198, s199, s200, s201, s202, s203, s204, s205, s206, s207, s208, s209, s210, s211, s212, s213, s214, s215, s216, s217, s218, s219, s220, s221, s222, s223, s224, s225, s226, s227, s228, s229, s230, s231, s232, s233, s234, s235, s236, s237, s238, s239, s240, s241, s242, s243, s244, s245, s246, s247, s248, s249, s250, s251, s252, s253, s254, s255, s256, s257, s258, s259, s260, s261, s262, s263, s264], []⟩ wr := by
  have HN := hide X.num
  have HF := hide X.fs
  have HT := hide X.ok
  have HBH := hide X.bh
  have HTM := hide X.at_
  have HL := hide X.len
  have HC := hide X.mem
  have HMAY := hide X.may
  have HFN := hide X.fn
  have HN32 := hide X.n32
  have hn32 : n ≤ 32 := X.n32
  have HAT := hide (fun W (hW : Below w.heap.size w W) x => ty_at W t.nm t.sz A2 c2 t.fs N HN.out (Kd.C_below HF.out hW) x)
  have HH := hide hH
  have HB := hide hB
  clear hB X
  have g0 := hH.cell 0
  have g1 := hH.cell 1
  have g2 := hH.cell 2
  simp at g0 g1 g2
  clear hH
  conv => arg 2; whnf
  have HKD := hide hkd
  clear hkd
  have hk1 : (k : Int) < N := by omega
  have hk0 : (0 : Int) ≤ k := by omega
  obtain ⟨fb, fo, rfl, e0, e1, e2, e3, e4⟩ := fl_at HF.out HB.out hf
  have HFK := hide (HT.out.fields k f hf)
  have HFM := hide (List.mem_of_getElem? hf)
  have HHO := hide (snd_holds HBH.out hf)
  obtain ⟨h, hh⟩ : ∃ h, wr.heap.size = h := ⟨_, rfl⟩
  have HL0 : Hid (Has (wr.alloc (.cells #[.string f.nm, .int .u8 f.kd, .int .i64 f.at_, .int .i64 f.of, .int .i64 f.node] 46)) h 46 #[.string f.nm, .int .u8 f.kd, .int .i64 f.at_, .int .i64 f.of, .int .i64 f.node]) := hide (by rw [← hh]; exact Has.new _ _ _)
  have HB1 := hide (bel_trans HB.out (below_box wr (.cells #[.string f.nm, .int .u8 f.kd, .int .i64 f.at_, .int .i64 f.of, .int .i64 f.node] 46)))
  have HH1 := hide (HH.out.alloc (.cells #[.string f.nm, .int .u8 f.kd, .int .i64 f.at_, .int .i64 f.of, .int .i64 f.node] 46))
  have HATE := hide (HAT.out _ HB1.out f.at_)
  rw [snd_at HT.out hf, show max (k : Int) 0 = k by omega, decide_eq_true hk0] at HATE
  have HKN := hide hkN
  have hgh : g ≠ h := by have := HH.out.lt; omega
  have y0 := HH1.out.cell 0
  have y1 := HH1.out.cell 1
  have y2 := HH1.out.cell 2
  have l2 := HL0.out.cell 2
  simp at y0 y1 y2 l2
  clear hf hkN
  go_wp2_with fail
  refine HATE.out.mono ?_
  rintro e w6 ⟨rfl, hb⟩
  have HB6 := hide (bel_trans HB1.out hb)
  have HH6 := hide (HH1.out.below hb HH1.out.lt)
  have HL6 := hide (HL0.out.below hb HL0.out.lt)
  clear hb HATE HL0 HH1 HB1 HB HH g0 g1 g2 e0 e1 e2 e3 e4 y0 y1 y2 l2
  go_wp2_with fail
  have L0 := hide (HL6.out.cell 0)
  have L1 := hide (HL6.out.cell 1)
  have L2 := hide (HL6.out.cell 2)
  have GC1 := hide (HH6.out.cell 1)
  have hfk := HFK.out.at0
  have hfz := HT.out.size
  have hfs := HFK.out.kind
  have HSB : Hid (∀ W, Calls Try.prog 21 #[.int .u8 f.kd] W fun e w' => e = .returned (.int .i64 (szK f.kd)) ∧ Below W.heap.size W w') := hide (fun W => (ty_size W f.kd).mono (by rintro e w' ⟨rfl, rfl⟩; exact ⟨rfl, Below.refl _ _⟩))
  have HM2 : Hid (∀ W, Calls Try.prog 23 #[.string f.nm] W fun e w' => e = .returned (.bool true) ∧ Below W.heap.size W w') := hide (fun W => by have := HMAY.out W f.nm (HFN.out f HFM.out); rwa [HFK.out.name] at this)
  have HNS := hide (fun W => neq_same (k : Int) W)
  have hre : f.at_.tmod 8 = 0 := by rw [Int.tmod_eq_emod_of_nonneg hfk.1]; exact hfk.2.1
  have HREM := hide (fun W : World => show (binOp .rem 3 (.int .i64 f.at_) (.int .i64 8)).run Try.prog W = .ok (.int .i64 0) W by simp [go_sem, hre, w64, wrap64])
  have HLSS := hide (fun W : World => show (binOp .lss 3 (.int .i64 f.at_) (.int .i64 0)).run Try.prog W = .ok (.bool false) W by simp [go_sem]; omega)
  have v1 : IntKind.i64.wrap (f.at_ + szK f.kd) = f.at_ + szK f.kd := by rw [w64]; unfold wrap64; omega
  have HADD := hide (fun W : World => show (binOp .add 3 (.int .i64 f.at_) (.int .i64 (szK f.kd))).run Try.prog W = .ok (.int .i64 (f.at_ + szK f.kd)) W by simp [go_sem, v1])
  have HGTR := hide (fun W => gtr_no (f.at_ + szK f.kd) t.sz (by omega) W)
  clear hfk hfz hfs v1 hre
  refine wp_region_abs [7, 10, 11, 12, 13] [98, 99, 100, 101, 102, 103, 104, 105, 106, 107, 108, 109, 110, 111, 112, 113, 114, 115, 116, 117, 118, 119, 120, 121, 122, 123, 124, 125, 126, 127, 128, 129, 130, 131]
    [.int .i64 (k : Int), .int .i64 (k : Int), .bool false, .bool false, .bool true, .bool false, .bool false, .bool false, .pointer (some ⟨h, 2, none⟩), .int .i64 f.at_, .int .i64 0, .bool false, .bool false, .bool false, .pointer (some ⟨h, 2, none⟩), .int .i64 f.at_, .bool false, .bool false, .bool false, .pointer (some ⟨h, 2, none⟩), .int .i64 f.at_, .pointer (some ⟨h, 1, none⟩), .int .u8 f.kd, .int .i64 (szK f.kd), .int .i64 (f.at_ + szK f.kd), .pointer (some ⟨g, 1, none⟩), .int .i64 t.sz, .bool false, .bool false, .bool false, .pointer (some ⟨h, 0, none⟩), .string f.nm, .bool true, .bool false] (by kernel_rfl) (by simp) rfl (by kernel_rfl) (by kernel_rfl) (by kernel_rfl) (by simp) (by decide) ?_ ?_
  · intro Q' a0 hT
    have o7 : a0.eval (.tmp 7) = .pointer (some ⟨g, 0, none⟩) := hT 7 (by simp)
    have o10 : a0.eval (.tmp 10) = .int .i64 (k : Int) := hT 10 (by simp)
    have o11 : a0.eval (.tmp 11) = .pointer (some ⟨h, 0, none⟩) := hT 11 (by simp)
    have o12 : a0.eval (.tmp 12) = .int .i64 (k : Int) := hT 12 (by simp)
    have o13 : a0.eval (.tmp 13) = .bool true := hT 13 (by simp)
    clear hT
    as_aux_lemma =>
      refine ⟨?_, ?_, ?_, ?_, ?_, ?_, ?_, ?_, ?_, ?_, ?_, ?_, ?_, ?_, ?_, ?_, ?_, ?_, ?_, ?_, ?_, ?_, ?_, ?_, ?_, ?_, ?_, ?_, ?_, ?_, ?_, ?_, ?_, ?_, trivial⟩
      · exact .inl ⟨.inl rfl, fun a' W hB hold he K hK => fx_move (.tmp 12) _ (.inl rfl) ((hold 12 (by decide)).trans o12) (hK _ (Below.refl _ _))⟩
      · exact .inl ⟨.inl rfl, fun a' W hB hold he K hK => fx_move (.tmp 10) _ (.inl rfl) ((hold 10 (by decide)).trans o10) (hK _ (Below.refl _ _))⟩
      · exact .inl ⟨.inl rfl, fun a' W hB hold he K hK => fx_bin .neq 3 3 (.tmp 98) (.tmp 99) _ _ _ rfl (he ⟨0, .data⟩ (by simp) rfl) (he ⟨1, .data⟩ (by simp) rfl) rfl (HNS.out _) (hK _ (Below.refl _ _))⟩
      · exact .inl ⟨.inl rfl, fun a' W hB hold he K hK => fx_move (.tmp 100) _ (.inl rfl) (he ⟨2, .data⟩ (by simp) rfl) (hK _ (Below.refl _ _))⟩
      · exact .inl ⟨.inr ⟨3, false, _, rfl, ⟨⟨3, .guard⟩, by simp, rfl, rfl⟩, rfl, rfl, by decide, rfl⟩, fun a' W hB hold he K hK => fx_move (.tmp 13) _ (.inl rfl) ((hold 13 (by decide)).trans o13) (hK _ (Below.refl _ _))⟩
      · exact .inl ⟨.inr ⟨3, false, _, rfl, ⟨⟨3, .guard⟩, by simp, rfl, rfl⟩, rfl, rfl, by decide, rfl⟩, fun a' W hB hold he K hK => fx_not 4 (.tmp 102) _ rfl (he ⟨4, .data⟩ (by simp) rfl) (hK _ (Below.refl _ _))⟩
      · exact .inl ⟨.inl rfl, fun a' W hB hold he K hK => fx_pick (.tmp 101) (.const (.bool true)) (.tmp 103) false _ rfl (he ⟨3, .data⟩ (by simp) rfl) (he ⟨5, .data⟩ (by simp) rfl) (hK _ (Below.refl _ _))⟩
      · exact .inl ⟨.inl rfl, fun a' W hB hold he K hK => fx_move (.tmp 104) _ (.inl rfl) (he ⟨6, .data⟩ (by simp) rfl) (hK _ (Below.refl _ _))⟩
      · exact .inl ⟨.inr ⟨7, false, _, rfl, ⟨⟨7, .guard⟩, by simp, rfl, rfl⟩, rfl, rfl, by decide, rfl⟩, fun a' W hB hold he K hK => fx_field 46 (.tmp 11) 2 _ _ rfl ((hold 11 (by decide)).trans o11) (by kernel_rfl) (hK _ (Below.refl _ _))⟩
      · exact .inl ⟨.inr ⟨7, false, _, rfl, ⟨⟨7, .guard⟩, by simp, rfl, rfl⟩, rfl, rfl, by decide, rfl⟩, fun a' W hB hold he K hK => wp_step_load 3 (.tmp 106) _ rfl _ (he ⟨8, .data⟩ (by simp) rfl) (load_int W _ _ _ (cell_bel L2.out hB)) (hK _ (Below.refl _ _))⟩
      · exact .inl ⟨.inr ⟨7, false, _, rfl, ⟨⟨7, .guard⟩, by simp, rfl, rfl⟩, rfl, rfl, by decide, rfl⟩, fun a' W hB hold he K hK => fx_bin .rem 3 3 (.tmp 107) (.const (.int .i64 8)) _ _ _ rfl (he ⟨9, .data⟩ (by simp) rfl) rfl rfl (HREM.out _) (hK _ (Below.refl _ _))⟩
      · exact .inl ⟨.inr ⟨7, false, _, rfl, ⟨⟨7, .guard⟩, by simp, rfl, rfl⟩, rfl, rfl, by decide, rfl⟩, fun a' W hB hold he K hK => fx_bin .neq 3 3 (.tmp 108) (.const (.int .i64 0)) _ _ _ rfl (he ⟨10, .data⟩ (by simp) rfl) rfl (by kernel_rfl) (by kernel_rfl) (hK _ (Below.refl _ _))⟩
      · exact .inl ⟨.inl rfl, fun a' W hB hold he K hK => fx_pick (.tmp 105) (.const (.bool true)) (.tmp 109) false _ rfl (he ⟨7, .data⟩ (by simp) rfl) (he ⟨11, .data⟩ (by simp) rfl) (hK _ (Below.refl _ _))⟩
      · exact .inl ⟨.inl rfl, fun a' W hB hold he K hK => fx_move (.tmp 110) _ (.inl rfl) (he ⟨12, .data⟩ (by simp) rfl) (hK _ (Below.refl _ _))⟩
      · exact .inl ⟨.inr ⟨13, false, _, rfl, ⟨⟨13, .guard⟩, by simp, rfl, rfl⟩, rfl, rfl, by decide, rfl⟩, fun a' W hB hold he K hK => fx_field 46 (.tmp 11) 2 _ _ rfl ((hold 11 (by decide)).trans o11) (by kernel_rfl) (hK _ (Below.refl _ _))⟩
      · exact .inl ⟨.inr ⟨13, false, _, rfl, ⟨⟨13, .guard⟩, by simp, rfl, rfl⟩, rfl, rfl, by decide, rfl⟩, fun a' W hB hold he K hK => wp_step_load 3 (.tmp 112) _ rfl _ (he ⟨14, .data⟩ (by simp) rfl) (load_int W _ _ _ (cell_bel L2.out hB)) (hK _ (Below.refl _ _))⟩
      · exact .inl ⟨.inr ⟨13, false, _, rfl, ⟨⟨13, .guard⟩, by simp, rfl, rfl⟩, rfl, rfl, by decide, rfl⟩, fun a' W hB hold he K hK => fx_bin .lss 3 3 (.tmp 113) (.const (.int .i64 0)) _ _ _ rfl (he ⟨15, .data⟩ (by simp) rfl) rfl rfl (HLSS.out _) (hK _ (Below.refl _ _))⟩
      · exact .inl ⟨.inl rfl, fun a' W hB hold he K hK => fx_pick (.tmp 111) (.const (.bool true)) (.tmp 114) false _ rfl (he ⟨13, .data⟩ (by simp) rfl) (he ⟨16, .data⟩ (by simp) rfl) (hK _ (Below.refl _ _))⟩
      · exact .inl ⟨.inl rfl, fun a' W hB hold he K hK => fx_move (.tmp 115) _ (.inl rfl) (he ⟨17, .data⟩ (by simp) rfl) (hK _ (Below.refl _ _))⟩
      · exact .inl ⟨.inr ⟨18, false, _, rfl, ⟨⟨18, .guard⟩, by simp, rfl, rfl⟩, rfl, rfl, by decide, rfl⟩, fun a' W hB hold he K hK => fx_field 46 (.tmp 11) 2 _ _ rfl ((hold 11 (by decide)).trans o11) (by kernel_rfl) (hK _ (Below.refl _ _))⟩
      · exact .inl ⟨.inr ⟨18, false, _, rfl, ⟨⟨18, .guard⟩, by simp, rfl, rfl⟩, rfl, rfl, by decide, rfl⟩, fun a' W hB hold he K hK => wp_step_load 3 (.tmp 117) _ rfl _ (he ⟨19, .data⟩ (by simp) rfl) (load_int W _ _ _ (cell_bel L2.out hB)) (hK _ (Below.refl _ _))⟩
      · exact .inl ⟨.inr ⟨18, false, _, rfl, ⟨⟨18, .guard⟩, by simp, rfl, rfl⟩, rfl, rfl, by decide, rfl⟩, fun a' W hB hold he K hK => fx_field 46 (.tmp 11) 1 _ _ rfl ((hold 11 (by decide)).trans o11) (by kernel_rfl) (hK _ (Below.refl _ _))⟩
      · exact .inl ⟨.inr ⟨18, false, _, rfl, ⟨⟨18, .guard⟩, by simp, rfl, rfl⟩, rfl, rfl, by decide, rfl⟩, fun a' W hB hold he K hK => wp_step_load 5 (.tmp 119) _ rfl _ (he ⟨21, .data⟩ (by simp) rfl) (load_u8 W _ _ _ (cell_bel L1.out hB)) (hK _ (Below.refl _ _))⟩
      · exact .inl ⟨.inr ⟨18, false, _, rfl, ⟨⟨18, .guard⟩, by simp, rfl, rfl⟩, rfl, rfl, by decide, rfl⟩, fun a' W hB hold he K hK => (by have h0 : a'.eval (.tmp 120) = _ := (he ⟨22, .data⟩ (by simp) rfl); exact wp_step_call 21 #[_] (by simp only [execOp, h0]; simp [go_sem] <;> (simp [Act.eval] at h0; simp [h0])) ((HSB.out W).mono (by rintro e1 w' ⟨rfl, hb⟩; exact ⟨_, rfl, hK _ hb⟩)))⟩
      · exact .inl ⟨.inr ⟨18, false, _, rfl, ⟨⟨18, .guard⟩, by simp, rfl, rfl⟩, rfl, rfl, by decide, rfl⟩, fun a' W hB hold he K hK => fx_bin .add 3 3 (.tmp 118) (.tmp 121) _ _ _ rfl (he ⟨20, .data⟩ (by simp) rfl) (he ⟨23, .data⟩ (by simp) rfl) rfl (HADD.out _) (hK _ (Below.refl _ _))⟩
      · exact .inl ⟨.inr ⟨18, false, _, rfl, ⟨⟨18, .guard⟩, by simp, rfl, rfl⟩, rfl, rfl, by decide, rfl⟩, fun a' W hB hold he K hK => fx_field 44 (.tmp 7) 1 _ _ rfl ((hold 7 (by decide)).trans o7) (by kernel_rfl) (hK _ (Below.refl _ _))⟩
      · exact .inl ⟨.inr ⟨18, false, _, rfl, ⟨⟨18, .guard⟩, by simp, rfl, rfl⟩, rfl, rfl, by decide, rfl⟩, fun a' W hB hold he K hK => wp_step_load 3 (.tmp 123) _ rfl _ (he ⟨25, .data⟩ (by simp) rfl) (load_int W _ _ _ (cell_bel GC1.out hB)) (hK _ (Below.refl _ _))⟩
      · exact .inl ⟨.inr ⟨18, false, _, rfl, ⟨⟨18, .guard⟩, by simp, rfl, rfl⟩, rfl, rfl, by decide, rfl⟩, fun a' W hB hold he K hK => fx_bin .gtr 3 3 (.tmp 122) (.tmp 124) _ _ _ rfl (he ⟨24, .data⟩ (by simp) rfl) (he ⟨26, .data⟩ (by simp) rfl) rfl (HGTR.out _) (hK _ (Below.refl _ _))⟩
      · exact .inl ⟨.inl rfl, fun a' W hB hold he K hK => fx_pick (.tmp 116) (.const (.bool true)) (.tmp 125) false _ rfl (he ⟨18, .data⟩ (by simp) rfl) (he ⟨27, .data⟩ (by simp) rfl) (hK _ (Below.refl _ _))⟩
      · exact .inl ⟨.inl rfl, fun a' W hB hold he K hK => fx_move (.tmp 126) _ (.inl rfl) (he ⟨28, .data⟩ (by simp) rfl) (hK _ (Below.refl _ _))⟩
      · exact .inl ⟨.inr ⟨29, false, _, rfl, ⟨⟨29, .guard⟩, by simp, rfl, rfl⟩, rfl, rfl, by decide, rfl⟩, fun a' W hB hold he K hK => fx_field 46 (.tmp 11) 0 _ _ rfl ((hold 11 (by decide)).trans o11) (by kernel_rfl) (hK _ (Below.refl _ _))⟩
      · exact .inl ⟨.inr ⟨29, false, _, rfl, ⟨⟨29, .guard⟩, by simp, rfl, rfl⟩, rfl, rfl, by decide, rfl⟩, fun a' W hB hold he K hK => wp_step_load 9 (.tmp 128) _ rfl _ (he ⟨30, .data⟩ (by simp) rfl) (load_str W _ _ _ (cell_bel L0.out hB)) (hK _ (Below.refl _ _))⟩
      · exact .inl ⟨.inr ⟨29, false, _, rfl, ⟨⟨29, .guard⟩, by simp, rfl, rfl⟩, rfl, rfl, by decide, rfl⟩, fun a' W hB hold he K hK => (by have h0 : a'.eval (.tmp 129) = _ := (he ⟨31, .data⟩ (by simp) rfl); exact wp_step_call 23 #[_] (by simp only [execOp, h0]; simp [go_sem] <;> (simp [Act.eval] at h0; simp [h0])) ((HM2.out W).mono (by rintro e1 w' ⟨rfl, hb⟩; exact ⟨_, rfl, hK _ hb⟩)))⟩
      · exact .inl ⟨.inr ⟨29, false, _, rfl, ⟨⟨29, .guard⟩, by simp, rfl, rfl⟩, rfl, rfl, by decide, rfl⟩, fun a' W hB hold he K hK => fx_not 4 (.tmp 130) _ rfl (he ⟨32, .data⟩ (by simp) rfl) (hK _ (Below.refl _ _))⟩
  intro W hB5
  simp only [putAll, List.length_cons, List.length_nil, Nat.reduceAdd, List.drop_succ_cons, List.drop_zero]
  have HB7 := hide (bel_trans HB6.out hB5)
  have HH7 := hide (HH6.out.below hB5 HH6.out.lt)
  have HL7 := hide (HL6.out.below hB5 HL6.out.lt)
  clear hB5
  clear HNS HREM HLSS HADD HGTR HSB HM2 L0 L1 L2 GC1 HL6 HH6 HB6
  have HFD := hide HFK.out.kind
  have v3 : IntKind.i64.wrap ((k : Int) + 1) = (k : Int) + 1 := by rw [w64]; unfold wrap64; have := HT.out.few; have := HN.out; have := HKN.out; omega
  have l1 := HL7.out.cell 1
  simp at l1
  have hkd := HKD.out
  clear HKD
  rw [hkd] at l1
  obtain ⟨hh1, hh2⟩ := snd_h2 HHO.out hkd
  obtain ⟨m, u, hof, hm, hu, huo⟩ := snd_obj hh1
  rw [hof] at hh2
  obtain ⟨q, y, hno, hq, hy, hyk⟩ := snd_by hu hh2
  obtain ⟨cb1, off1, A3, c3, hA, u0, u1, u2, hl3, hFu⟩ := tp_at HC.out HB7.out hu
  injection hA with hA
  injection hA with hA1 hA2
  subst hA1
  subst hA2
  obtain ⟨U, hU⟩ : ∃ U, u.fs.length = U := ⟨_, rfl⟩
  rw [hU] at u2 hFu hl3 hq
  have hm1 : (m : Int) < n := by have := HL.out; omega
  have hm0 : (0 : Int) ≤ m := by omega
  have HOB := hide (fun W9 (hW : Below w.heap.size w W9) => ty_object W9 u.nm u.sz A3 c3 u.fs U hU (Kd.C_below hFu hW))
  rw [huo] at HOB
  obtain ⟨fb2, fo2, rfl, p0, p1, p2, p3, p4⟩ := fl_at hFu HB7.out hy
  rw [hyk] at p1
  have hq1 : (q : Int) < U := by omega
  have hq0 : (0 : Int) ≤ q := by omega
  have P1 := hide p1
  have L4 : Hid (W.cell? ⟨h, 4, none⟩ = some (.int .i64 (q : Int))) := hide (by have := HL7.out.cell 4; rw [hno] at this; exact this)
  have Q0 := hide (fun W : World => show (binOp .lss 3 (.int .i64 (q : Int)) (.int .i64 0)).run Try.prog W = .ok (.bool false) W by simp [go_sem])
  have Q1 := hide (fun W : World => show (binOp .geq 3 (.int .i64 (q : Int)) (.int .i64 (U : Int))).run Try.prog W = .ok (.bool false) W by simp [go_sem]; omega)
  clear p0 p1 p2 p3 p4 hyk hno hy hq hh1 hh2
  have L3 : Hid (W.cell? ⟨h, 3, none⟩ = some (.int .i64 (m : Int))) := hide (by have := HL7.out.cell 3; rw [hof] at this; exact this)
  have U0 := hide u0
  have U1 := hide u1
  have U2 := hide u2
  have M0 := hide (fun W : World => show (binOp .lss 3 (.int .i64 (m : Int)) (.int .i64 0)).run Try.prog W = .ok (.bool false) W by simp [go_sem])
  have M1 := hide (fun W : World => show (binOp .geq 3 (.int .i64 (m : Int)) (.int .i64 (n : Int))).run Try.prog W = .ok (.bool false) W by simp [go_sem]; omega)
  have L1 := hide l1
  clear u0 u1 u2 hU hFu hl3 huo hu hm hof hkd
  go_wp2_with fail
  refine wp_region_abs [0, 11, 14] [146, 147, 148, 149, 150, 151, 152, 153, 154, 155, 156, 157, 158, 159, 160, 161, 162, 163, 164, 165, 166, 167, 168, 169, 170, 171, 172, 173, 174, 175, 176, 177, 178, 179, 180, 181, 182, 183, 184, 185, 186, 187, 188, 189, 190, 191]
    [.bool true, .bool true, .pointer (some ⟨h, 3, none⟩), .int .i64 (m : Int), .bool false, .bool false, .pointer (some ⟨h, 3, none⟩), .int .i64 (m : Int), .slice (some ⟨cb, off, none⟩) n c, .int .i64 (n : Int), .bool false, .bool false, .bool false, .slice (some ⟨cb, off, none⟩) n c, .pointer (some ⟨h, 3, none⟩), .int .i64 (m : Int), .pointer (some ⟨cb, off + m * 3, none⟩), .agg #[.string u.nm, .int .i64 u.sz, .slice (some ⟨fb2, fo2, none⟩) U c3], .bool true, .bool false, .bool false, .bool false, .bool false, .pointer (some ⟨h, 1, none⟩), .int .u8 2, .bool true, .bool true, .bool true, .bool true, .bool true, .pointer (some ⟨h, 4, none⟩), .int .i64 (q : Int), .bool false, .bool false, .pointer (some ⟨h, 4, none⟩), .int .i64 (q : Int), .slice (some ⟨cb, off, none⟩) n c, .pointer (some ⟨h, 3, none⟩), .int .i64 (m : Int), .pointer (some ⟨cb, off + m * 3, none⟩), .pointer (some ⟨cb, off + m * 3 + 2, none⟩), .slice (some ⟨fb2, fo2, none⟩) U c3, .int .i64 (U : Int), .bool false, .bool false, .bool false] (by kernel_rfl) (by simp) rfl (by kernel_rfl) (by kernel_rfl) (by kernel_rfl) (by simp) (by decide) ?_ ?_
  · intro Q' a0 hT
    have o0 : a0.eval (.tmp 0) = .slice (some ⟨cb, off, none⟩) n c := hT 0 (by simp)
    have o11 : a0.eval (.tmp 11) = .pointer (some ⟨h, 0, none⟩) := hT 11 (by simp)
    have o14 : a0.eval (.tmp 14) = .bool true := hT 14 (by simp)
    clear hT
    as_aux_lemma =>
      refine ⟨?_, ?_, ?_, ?_, ?_, ?_, ?_, ?_, ?_, ?_, ?_, ?_, ?_, ?_, ?_, ?_, ?_, ?_, ?_, ?_, ?_, ?_, ?_, ?_, ?_, ?_, ?_, ?_, ?_, ?_, ?_, ?_, ?_, ?_, ?_, ?_, ?_, ?_, ?_, ?_, ?_, ?_, ?_, ?_, ?_, ?_, trivial⟩
      · exact .inl ⟨.inl rfl, fun a' W hB hold he K hK => fx_move (.tmp 14) _ (.inl rfl) ((hold 14 (by decide)).trans o14) (hK _ (Below.refl _ _))⟩
      · exact .inl ⟨.inl rfl, fun a' W hB hold he K hK => fx_move (.tmp 146) _ (.inl rfl) (he ⟨0, .data⟩ (by simp) rfl) (hK _ (Below.refl _ _))⟩
      · exact .inl ⟨.inr ⟨1, true, _, rfl, ⟨⟨1, .guard⟩, by simp, rfl, rfl⟩, rfl, rfl, by decide, rfl⟩, fun a' W hB hold he K hK => fx_field 46 (.tmp 11) 3 _ _ rfl ((hold 11 (by decide)).trans o11) (by kernel_rfl) (hK _ (Below.refl _ _))⟩
      · exact .inl ⟨.inr ⟨1, true, _, rfl, ⟨⟨1, .guard⟩, by simp, rfl, rfl⟩, rfl, rfl, by decide, rfl⟩, fun a' W hB hold he K hK => wp_step_load 3 (.tmp 148) _ rfl _ (he ⟨2, .data⟩ (by simp) rfl) (load_int W _ _ _ (cell_bel L3.out hB)) (hK _ (Below.refl _ _))⟩
      · exact .inl ⟨.inr ⟨1, true, _, rfl, ⟨⟨1, .guard⟩, by simp, rfl, rfl⟩, rfl, rfl, by decide, rfl⟩, fun a' W hB hold he K hK => fx_bin .lss 3 3 (.tmp 149) (.const (.int .i64 0)) _ _ _ rfl (he ⟨3, .data⟩ (by simp) rfl) rfl rfl (M0.out _) (hK _ (Below.refl _ _))⟩
      · exact .inl ⟨.inr ⟨1, true, _, rfl, ⟨⟨1, .guard⟩, by simp, rfl, rfl⟩, rfl, rfl, by decide, rfl⟩, fun a' W hB hold he K hK => fx_move (.tmp 150) _ (.inl rfl) (he ⟨4, .data⟩ (by simp) rfl) (hK _ (Below.refl _ _))⟩
      · exact .inl ⟨.inr ⟨5, false, _, rfl, ⟨⟨5, .guard⟩, by simp, rfl, rfl⟩, rfl, rfl, by decide, rfl⟩, fun a' W hB hold he K hK => fx_field 46 (.tmp 11) 3 _ _ rfl ((hold 11 (by decide)).trans o11) (by kernel_rfl) (hK _ (Below.refl _ _))⟩
      · exact .inl ⟨.inr ⟨5, false, _, rfl, ⟨⟨5, .guard⟩, by simp, rfl, rfl⟩, rfl, rfl, by decide, rfl⟩, fun a' W hB hold he K hK => wp_step_load 3 (.tmp 152) _ rfl _ (he ⟨6, .data⟩ (by simp) rfl) (load_int W _ _ _ (cell_bel L3.out hB)) (hK _ (Below.refl _ _))⟩
      · exact .inl ⟨.inr ⟨5, false, _, rfl, ⟨⟨5, .guard⟩, by simp, rfl, rfl⟩, rfl, rfl, by decide, rfl⟩, fun a' W hB hold he K hK => fx_move (.tmp 0) _ (.inl rfl) ((hold 0 (by decide)).trans o0) (hK _ (Below.refl _ _))⟩
      · exact .inl ⟨.inr ⟨5, false, _, rfl, ⟨⟨5, .guard⟩, by simp, rfl, rfl⟩, rfl, rfl, by decide, rfl⟩, fun a' W hB hold he K hK => (by have h0 : a'.eval (.tmp 154) = .slice (some ⟨cb, off, none⟩) n c := (he ⟨8, .data⟩ (by simp) rfl); have h1 : a'.tmps[154]?.getD undef = .slice (some ⟨cb, off, none⟩) n c := (by simpa [Act.eval] using h0); exact wp_step_run _ (by simp only [execOp]; simp [go_sem]; rw [h1]; rfl) (hK _ (Below.refl _ _)))⟩
      · exact .inl ⟨.inr ⟨5, false, _, rfl, ⟨⟨5, .guard⟩, by simp, rfl, rfl⟩, rfl, rfl, by decide, rfl⟩, fun a' W hB hold he K hK => fx_bin .geq 3 3 (.tmp 153) (.tmp 155) _ _ _ rfl (he ⟨7, .data⟩ (by simp) rfl) (he ⟨9, .data⟩ (by simp) rfl) rfl (M1.out _) (hK _ (Below.refl _ _))⟩
      · exact .inl ⟨.inr ⟨1, true, _, rfl, ⟨⟨1, .guard⟩, by simp, rfl, rfl⟩, rfl, rfl, by decide, rfl⟩, fun a' W hB hold he K hK => fx_pick (.tmp 151) (.const (.bool true)) (.tmp 156) false _ rfl (he ⟨5, .data⟩ (by simp) rfl) (he ⟨10, .data⟩ (by simp) rfl) (hK _ (Below.refl _ _))⟩
      · exact .inl ⟨.inr ⟨1, true, _, rfl, ⟨⟨1, .guard⟩, by simp, rfl, rfl⟩, rfl, rfl, by decide, rfl⟩, fun a' W hB hold he K hK => fx_move (.tmp 157) _ (.inl rfl) (he ⟨11, .data⟩ (by simp) rfl) (hK _ (Below.refl _ _))⟩
      · exact .inl ⟨.inr ⟨12, false, _, rfl, ⟨⟨12, .guard⟩, by simp, rfl, rfl⟩, rfl, rfl, by decide, rfl⟩, fun a' W hB hold he K hK => fx_move (.tmp 0) _ (.inl rfl) ((hold 0 (by decide)).trans o0) (hK _ (Below.refl _ _))⟩
      · exact .inl ⟨.inr ⟨12, false, _, rfl, ⟨⟨12, .guard⟩, by simp, rfl, rfl⟩, rfl, rfl, by decide, rfl⟩, fun a' W hB hold he K hK => fx_field 46 (.tmp 11) 3 _ _ rfl ((hold 11 (by decide)).trans o11) (by kernel_rfl) (hK _ (Below.refl _ _))⟩
      · exact .inl ⟨.inr ⟨12, false, _, rfl, ⟨⟨12, .guard⟩, by simp, rfl, rfl⟩, rfl, rfl, by decide, rfl⟩, fun a' W hB hold he K hK => wp_step_load 3 (.tmp 160) _ rfl _ (he ⟨14, .data⟩ (by simp) rfl) (load_int W _ _ _ (cell_bel L3.out hB)) (hK _ (Below.refl _ _))⟩
      · exact .inl ⟨.inr ⟨12, false, _, rfl, ⟨⟨12, .guard⟩, by simp, rfl, rfl⟩, rfl, rfl, by decide, rfl⟩, fun a' W hB hold he K hK => (by have h0 : a'.eval (.tmp 159) = _ := (he ⟨13, .data⟩ (by simp) rfl); have h1 : a'.eval (.tmp 161) = _ := (he ⟨15, .data⟩ (by simp) rfl); exact wp_step_run (.pointer (some ⟨cb, off + m * 3, none⟩)) (by simp only [execOp, h0, h1]; go_simp) (hK _ (Below.refl _ _)))⟩
      · exact .inl ⟨.inr ⟨12, false, _, rfl, ⟨⟨12, .guard⟩, by simp, rfl, rfl⟩, rfl, rfl, by decide, rfl⟩, fun a' W hB hold he K hK => wp_step_load 44 (.tmp 162) _ rfl _ (he ⟨16, .data⟩ (by simp) rfl) (ld_tpo W _ _ _ _ _ _ _ (cell_bel U0.out hB) (cell_bel U1.out hB) (cell_bel U2.out hB)) (hK _ (Below.refl _ _))⟩
      · exact .inl ⟨.inr ⟨12, false, _, rfl, ⟨⟨12, .guard⟩, by simp, rfl, rfl⟩, rfl, rfl, by decide, rfl⟩, fun a' W hB hold he K hK => (by have h0 : a'.eval (.tmp 163) = _ := (he ⟨17, .data⟩ (by simp) rfl); exact wp_step_call 26 #[_] (by simp only [execOp, h0]; simp [go_sem] <;> (simp [Act.eval] at h0; simp [h0])) ((HOB.out W (bel_trans HB7.out hB)).mono (by rintro e1 w' ⟨rfl, hb⟩; exact ⟨_, rfl, hK _ hb⟩)))⟩
      · exact .inl ⟨.inr ⟨12, false, _, rfl, ⟨⟨12, .guard⟩, by simp, rfl, rfl⟩, rfl, rfl, by decide, rfl⟩, fun a' W hB hold he K hK => fx_not 4 (.tmp 164) _ rfl (he ⟨18, .data⟩ (by simp) rfl) (hK _ (Below.refl _ _))⟩
      · exact .inl ⟨.inr ⟨1, true, _, rfl, ⟨⟨1, .guard⟩, by simp, rfl, rfl⟩, rfl, rfl, by decide, rfl⟩, fun a' W hB hold he K hK => fx_pick (.tmp 158) (.const (.bool true)) (.tmp 165) false _ rfl (he ⟨12, .data⟩ (by simp) rfl) (he ⟨19, .data⟩ (by simp) rfl) (hK _ (Below.refl _ _))⟩
      · exact .inl ⟨.inl rfl, fun a' W hB hold he K hK => fx_pick (.tmp 147) (.tmp 166) (.const (.bool false)) true _ rfl (he ⟨1, .data⟩ (by simp) rfl) (he ⟨20, .data⟩ (by simp) rfl) (hK _ (Below.refl _ _))⟩
      · exact .inl ⟨.inl rfl, fun a' W hB hold he K hK => fx_move (.tmp 167) _ (.inl rfl) (he ⟨21, .data⟩ (by simp) rfl) (hK _ (Below.refl _ _))⟩
      · exact .inl ⟨.inr ⟨22, false, _, rfl, ⟨⟨22, .guard⟩, by simp, rfl, rfl⟩, rfl, rfl, by decide, rfl⟩, fun a' W hB hold he K hK => fx_field 46 (.tmp 11) 1 _ _ rfl ((hold 11 (by decide)).trans o11) (by kernel_rfl) (hK _ (Below.refl _ _))⟩
      · exact .inl ⟨.inr ⟨22, false, _, rfl, ⟨⟨22, .guard⟩, by simp, rfl, rfl⟩, rfl, rfl, by decide, rfl⟩, fun a' W hB hold he K hK => wp_step_load 5 (.tmp 169) _ rfl _ (he ⟨23, .data⟩ (by simp) rfl) (load_u8 W _ _ _ (cell_bel L1.out hB)) (hK _ (Below.refl _ _))⟩
      · exact .inl ⟨.inr ⟨22, false, _, rfl, ⟨⟨22, .guard⟩, by simp, rfl, rfl⟩, rfl, rfl, by decide, rfl⟩, fun a' W hB hold he K hK => fx_bin .neq 5 5 (.tmp 170) (.const (.int .u8 1)) _ _ _ rfl (he ⟨24, .data⟩ (by simp) rfl) rfl (by kernel_rfl) (by kernel_rfl) (hK _ (Below.refl _ _))⟩
      · exact .inl ⟨.inr ⟨22, false, _, rfl, ⟨⟨22, .guard⟩, by simp, rfl, rfl⟩, rfl, rfl, by decide, rfl⟩, fun a' W hB hold he K hK => fx_move (.tmp 171) _ (.inl rfl) (he ⟨25, .data⟩ (by simp) rfl) (hK _ (Below.refl _ _))⟩
      · exact .inl ⟨.inr ⟨26, true, _, rfl, ⟨⟨26, .guard⟩, by simp, rfl, rfl⟩, rfl, rfl, by decide, rfl⟩, fun a' W hB hold he K hK => fx_move (.tmp 14) _ (.inl rfl) ((hold 14 (by decide)).trans o14) (hK _ (Below.refl _ _))⟩
      · exact .inl ⟨.inr ⟨22, false, _, rfl, ⟨⟨22, .guard⟩, by simp, rfl, rfl⟩, rfl, rfl, by decide, rfl⟩, fun a' W hB hold he K hK => fx_pick (.tmp 172) (.tmp 173) (.const (.bool false)) true _ rfl (he ⟨26, .data⟩ (by simp) rfl) (he ⟨27, .data⟩ (by simp) rfl) (hK _ (Below.refl _ _))⟩
      · exact .inl ⟨.inr ⟨22, false, _, rfl, ⟨⟨22, .guard⟩, by simp, rfl, rfl⟩, rfl, rfl, by decide, rfl⟩, fun a' W hB hold he K hK => fx_move (.tmp 174) _ (.inl rfl) (he ⟨28, .data⟩ (by simp) rfl) (hK _ (Below.refl _ _))⟩
      · exact .inl ⟨.inr ⟨29, true, _, rfl, ⟨⟨29, .guard⟩, by simp, rfl, rfl⟩, rfl, rfl, by decide, rfl⟩, fun a' W hB hold he K hK => fx_field 46 (.tmp 11) 4 _ _ rfl ((hold 11 (by decide)).trans o11) (by kernel_rfl) (hK _ (Below.refl _ _))⟩
      · exact .inl ⟨.inr ⟨29, true, _, rfl, ⟨⟨29, .guard⟩, by simp, rfl, rfl⟩, rfl, rfl, by decide, rfl⟩, fun a' W hB hold he K hK => wp_step_load 3 (.tmp 176) _ rfl _ (he ⟨30, .data⟩ (by simp) rfl) (load_int W _ _ _ (cell_bel L4.out hB)) (hK _ (Below.refl _ _))⟩
      · exact .inl ⟨.inr ⟨29, true, _, rfl, ⟨⟨29, .guard⟩, by simp, rfl, rfl⟩, rfl, rfl, by decide, rfl⟩, fun a' W hB hold he K hK => fx_bin .lss 3 3 (.tmp 177) (.const (.int .i64 0)) _ _ _ rfl (he ⟨31, .data⟩ (by simp) rfl) rfl rfl (Q0.out _) (hK _ (Below.refl _ _))⟩
      · exact .inl ⟨.inr ⟨29, true, _, rfl, ⟨⟨29, .guard⟩, by simp, rfl, rfl⟩, rfl, rfl, by decide, rfl⟩, fun a' W hB hold he K hK => fx_move (.tmp 178) _ (.inl rfl) (he ⟨32, .data⟩ (by simp) rfl) (hK _ (Below.refl _ _))⟩
      · exact .inl ⟨.inr ⟨33, false, _, rfl, ⟨⟨33, .guard⟩, by simp, rfl, rfl⟩, rfl, rfl, by decide, rfl⟩, fun a' W hB hold he K hK => fx_field 46 (.tmp 11) 4 _ _ rfl ((hold 11 (by decide)).trans o11) (by kernel_rfl) (hK _ (Below.refl _ _))⟩
      · exact .inl ⟨.inr ⟨33, false, _, rfl, ⟨⟨33, .guard⟩, by simp, rfl, rfl⟩, rfl, rfl, by decide, rfl⟩, fun a' W hB hold he K hK => wp_step_load 3 (.tmp 180) _ rfl _ (he ⟨34, .data⟩ (by simp) rfl) (load_int W _ _ _ (cell_bel L4.out hB)) (hK _ (Below.refl _ _))⟩
      · exact .inl ⟨.inr ⟨33, false, _, rfl, ⟨⟨33, .guard⟩, by simp, rfl, rfl⟩, rfl, rfl, by decide, rfl⟩, fun a' W hB hold he K hK => fx_move (.tmp 0) _ (.inl rfl) ((hold 0 (by decide)).trans o0) (hK _ (Below.refl _ _))⟩
      · exact .inl ⟨.inr ⟨33, false, _, rfl, ⟨⟨33, .guard⟩, by simp, rfl, rfl⟩, rfl, rfl, by decide, rfl⟩, fun a' W hB hold he K hK => fx_field 46 (.tmp 11) 3 _ _ rfl ((hold 11 (by decide)).trans o11) (by kernel_rfl) (hK _ (Below.refl _ _))⟩
      · exact .inl ⟨.inr ⟨33, false, _, rfl, ⟨⟨33, .guard⟩, by simp, rfl, rfl⟩, rfl, rfl, by decide, rfl⟩, fun a' W hB hold he K hK => wp_step_load 3 (.tmp 183) _ rfl _ (he ⟨37, .data⟩ (by simp) rfl) (load_int W _ _ _ (cell_bel L3.out hB)) (hK _ (Below.refl _ _))⟩
      · exact .inl ⟨.inr ⟨33, false, _, rfl, ⟨⟨33, .guard⟩, by simp, rfl, rfl⟩, rfl, rfl, by decide, rfl⟩, fun a' W hB hold he K hK => (by have h0 : a'.eval (.tmp 182) = _ := (he ⟨36, .data⟩ (by simp) rfl); have h1 : a'.eval (.tmp 184) = _ := (he ⟨38, .data⟩ (by simp) rfl); exact wp_step_run (.pointer (some ⟨cb, off + m * 3, none⟩)) (by simp only [execOp, h0, h1]; go_simp) (hK _ (Below.refl _ _)))⟩
      · exact .inl ⟨.inr ⟨33, false, _, rfl, ⟨⟨33, .guard⟩, by simp, rfl, rfl⟩, rfl, rfl, by decide, rfl⟩, fun a' W hB hold he K hK => fx_field 44 (.tmp 185) 2 _ _ rfl (he ⟨39, .data⟩ (by simp) rfl) (by kernel_rfl) (hK _ (Below.refl _ _))⟩
      · exact .inl ⟨.inr ⟨33, false, _, rfl, ⟨⟨33, .guard⟩, by simp, rfl, rfl⟩, rfl, rfl, by decide, rfl⟩, fun a' W hB hold he K hK => wp_step_load 42 (.tmp 186) _ rfl _ (he ⟨40, .data⟩ (by simp) rfl) (load_fs W _ _ _ _ _ (cell_bel U2.out hB)) (hK _ (Below.refl _ _))⟩
      · exact .inl ⟨.inr ⟨33, false, _, rfl, ⟨⟨33, .guard⟩, by simp, rfl, rfl⟩, rfl, rfl, by decide, rfl⟩, fun a' W hB hold he K hK => (by have h0 : a'.eval (.tmp 187) = .slice (some ⟨fb2, fo2, none⟩) U c3 := (he ⟨41, .data⟩ (by simp) rfl); have h1 : a'.tmps[187]?.getD undef = .slice (some ⟨fb2, fo2, none⟩) U c3 := (by simpa [Act.eval] using h0); exact wp_step_run _ (by simp only [execOp]; simp [go_sem]; rw [h1]; rfl) (hK _ (Below.refl _ _)))⟩
      · exact .inl ⟨.inr ⟨33, false, _, rfl, ⟨⟨33, .guard⟩, by simp, rfl, rfl⟩, rfl, rfl, by decide, rfl⟩, fun a' W hB hold he K hK => fx_bin .geq 3 3 (.tmp 181) (.tmp 188) _ _ _ rfl (he ⟨35, .data⟩ (by simp) rfl) (he ⟨42, .data⟩ (by simp) rfl) rfl (Q1.out _) (hK _ (Below.refl _ _))⟩
      · exact .inl ⟨.inr ⟨29, true, _, rfl, ⟨⟨29, .guard⟩, by simp, rfl, rfl⟩, rfl, rfl, by decide, rfl⟩, fun a' W hB hold he K hK => fx_pick (.tmp 179) (.const (.bool true)) (.tmp 189) false _ rfl (he ⟨33, .data⟩ (by simp) rfl) (he ⟨43, .data⟩ (by simp) rfl) (hK _ (Below.refl _ _))⟩
      · exact .inl ⟨.inr ⟨22, false, _, rfl, ⟨⟨22, .guard⟩, by simp, rfl, rfl⟩, rfl, rfl, by decide, rfl⟩, fun a' W hB hold he K hK => fx_pick (.tmp 175) (.tmp 190) (.const (.bool false)) true _ rfl (he ⟨29, .data⟩ (by simp) rfl) (he ⟨44, .data⟩ (by simp) rfl) (hK _ (Below.refl _ _))⟩
  intro W8 hB8
  simp only [putAll, List.length_cons, List.length_nil, Nat.reduceAdd, List.drop_succ_cons, List.drop_zero]
  have HB8 := hide (bel_trans HB7.out hB8)
  have HH8 := hide (HH7.out.below hB8 HH7.out.lt)
  replace L1 := hide (cell_bel L1.out hB8)
  replace L3 := hide (cell_bel L3.out hB8)
  replace U2 := hide (cell_bel U2.out hB8)
  replace L4 := hide (cell_bel L4.out hB8)
  replace P1 := hide (cell_bel P1.out hB8)
  clear hB8 l1
  go_wp2_with fail
  refine wp_region_abs [0, 11] [193, 194, 195, 196, 197, 198, 199, 200, 201, 202, 203, 204, 205, 206, 207, 208, 209, 210, 211, 212, 213, 214, 215, 216, 217, 218, 219, 220, 221, 222, 223, 224, 225, 226, 227]
    [.pointer (some ⟨h, 1, none⟩), .int .u8 2, .bool true, .bool true, .slice (some ⟨cb, off, none⟩) n c, .pointer (some ⟨h, 3, none⟩), .int .i64 (m : Int), .pointer (some ⟨cb, off + m * 3, none⟩), .pointer (some ⟨cb, off + m * 3 + 2, none⟩), .slice (some ⟨fb2, fo2, none⟩) U c3, .pointer (some ⟨h, 4, none⟩), .int .i64 (q : Int), .pointer (some ⟨fb2, fo2 + q * 5, none⟩), .pointer (some ⟨fb2, fo2 + q * 5 + 1, none⟩), .int .u8 3, .bool false, .bool false, .bool false, .pointer (some ⟨h, 1, none⟩), .int .u8 2, .bool false, .bool false, undef, undef, undef, undef, undef, undef, undef, undef, undef, undef, undef, undef, .bool false] (by kernel_rfl) (by simp) rfl (by kernel_rfl) (by kernel_rfl) (by kernel_rfl) (by simp) (by decide) ?_ ?_
  · intro Q' a0 hT
    have o0 : a0.eval (.tmp 0) = .slice (some ⟨cb, off, none⟩) n c := hT 0 (by simp)
    have o11 : a0.eval (.tmp 11) = .pointer (some ⟨h, 0, none⟩) := hT 11 (by simp)
    clear hT
    as_aux_lemma =>
      refine ⟨?_, ?_, ?_, ?_, ?_, ?_, ?_, ?_, ?_, ?_, ?_, ?_, ?_, ?_, ?_, ?_, ?_, ?_, ?_, ?_, ?_, ?_, ?_, ?_, ?_, ?_, ?_, ?_, ?_, ?_, ?_, ?_, ?_, ?_, ?_, trivial⟩
      · exact .inl ⟨.inl rfl, fun a' W hB hold he K hK => fx_field 46 (.tmp 11) 1 _ _ rfl ((hold 11 (by decide)).trans o11) (by kernel_rfl) (hK _ (Below.refl _ _))⟩
      · exact .inl ⟨.inl rfl, fun a' W hB hold he K hK => wp_step_load 5 (.tmp 193) _ rfl _ (he ⟨0, .data⟩ (by simp) rfl) (load_u8 W _ _ _ (cell_bel L1.out hB)) (hK _ (Below.refl _ _))⟩
      · exact .inl ⟨.inl rfl, fun a' W hB hold he K hK => fx_bin .eql 5 5 (.tmp 194) (.const (.int .u8 2)) _ _ _ rfl (he ⟨1, .data⟩ (by simp) rfl) rfl (by kernel_rfl) (by kernel_rfl) (hK _ (Below.refl _ _))⟩
      · exact .inl ⟨.inl rfl, fun a' W hB hold he K hK => fx_move (.tmp 195) _ (.inl rfl) (he ⟨2, .data⟩ (by simp) rfl) (hK _ (Below.refl _ _))⟩
      · exact .inl ⟨.inr ⟨3, true, _, rfl, ⟨⟨3, .guard⟩, by simp, rfl, rfl⟩, rfl, rfl, by decide, rfl⟩, fun a' W hB hold he K hK => fx_move (.tmp 0) _ (.inl rfl) ((hold 0 (by decide)).trans o0) (hK _ (Below.refl _ _))⟩
      · exact .inl ⟨.inr ⟨3, true, _, rfl, ⟨⟨3, .guard⟩, by simp, rfl, rfl⟩, rfl, rfl, by decide, rfl⟩, fun a' W hB hold he K hK => fx_field 46 (.tmp 11) 3 _ _ rfl ((hold 11 (by decide)).trans o11) (by kernel_rfl) (hK _ (Below.refl _ _))⟩
      · exact .inl ⟨.inr ⟨3, true, _, rfl, ⟨⟨3, .guard⟩, by simp, rfl, rfl⟩, rfl, rfl, by decide, rfl⟩, fun a' W hB hold he K hK => wp_step_load 3 (.tmp 198) _ rfl _ (he ⟨5, .data⟩ (by simp) rfl) (load_int W _ _ _ (cell_bel L3.out hB)) (hK _ (Below.refl _ _))⟩
      · exact .inl ⟨.inr ⟨3, true, _, rfl, ⟨⟨3, .guard⟩, by simp, rfl, rfl⟩, rfl, rfl, by decide, rfl⟩, fun a' W hB hold he K hK => (by have h0 : a'.eval (.tmp 197) = _ := (he ⟨4, .data⟩ (by simp) rfl); have h1 : a'.eval (.tmp 199) = _ := (he ⟨6, .data⟩ (by simp) rfl); exact wp_step_run (.pointer (some ⟨cb, off + m * 3, none⟩)) (by simp only [execOp, h0, h1]; go_simp) (hK _ (Below.refl _ _)))⟩
      · exact .inl ⟨.inr ⟨3, true, _, rfl, ⟨⟨3, .guard⟩, by simp, rfl, rfl⟩, rfl, rfl, by decide, rfl⟩, fun a' W hB hold he K hK => fx_field 44 (.tmp 200) 2 _ _ rfl (he ⟨7, .data⟩ (by simp) rfl) (by kernel_rfl) (hK _ (Below.refl _ _))⟩
      · exact .inl ⟨.inr ⟨3, true, _, rfl, ⟨⟨3, .guard⟩, by simp, rfl, rfl⟩, rfl, rfl, by decide, rfl⟩, fun a' W hB hold he K hK => wp_step_load 42 (.tmp 201) _ rfl _ (he ⟨8, .data⟩ (by simp) rfl) (load_fs W _ _ _ _ _ (cell_bel U2.out hB)) (hK _ (Below.refl _ _))⟩
      · exact .inl ⟨.inr ⟨3, true, _, rfl, ⟨⟨3, .guard⟩, by simp, rfl, rfl⟩, rfl, rfl, by decide, rfl⟩, fun a' W hB hold he K hK => fx_field 46 (.tmp 11) 4 _ _ rfl ((hold 11 (by decide)).trans o11) (by kernel_rfl) (hK _ (Below.refl _ _))⟩
      · exact .inl ⟨.inr ⟨3, true, _, rfl, ⟨⟨3, .guard⟩, by simp, rfl, rfl⟩, rfl, rfl, by decide, rfl⟩, fun a' W hB hold he K hK => wp_step_load 3 (.tmp 203) _ rfl _ (he ⟨10, .data⟩ (by simp) rfl) (load_int W _ _ _ (cell_bel L4.out hB)) (hK _ (Below.refl _ _))⟩
      · exact .inl ⟨.inr ⟨3, true, _, rfl, ⟨⟨3, .guard⟩, by simp, rfl, rfl⟩, rfl, rfl, by decide, rfl⟩, fun a' W hB hold he K hK => (by have h0 : a'.eval (.tmp 202) = _ := (he ⟨9, .data⟩ (by simp) rfl); have h1 : a'.eval (.tmp 204) = _ := (he ⟨11, .data⟩ (by simp) rfl); exact wp_step_run (.pointer (some ⟨fb2, fo2 + q * 5, none⟩)) (by simp only [execOp, h0, h1]; go_simp) (hK _ (Below.refl _ _)))⟩
      · exact .inl ⟨.inr ⟨3, true, _, rfl, ⟨⟨3, .guard⟩, by simp, rfl, rfl⟩, rfl, rfl, by decide, rfl⟩, fun a' W hB hold he K hK => fx_field 46 (.tmp 205) 1 _ _ rfl (he ⟨12, .data⟩ (by simp) rfl) (by kernel_rfl) (hK _ (Below.refl _ _))⟩
      · exact .inl ⟨.inr ⟨3, true, _, rfl, ⟨⟨3, .guard⟩, by simp, rfl, rfl⟩, rfl, rfl, by decide, rfl⟩, fun a' W hB hold he K hK => wp_step_load 5 (.tmp 206) _ rfl _ (he ⟨13, .data⟩ (by simp) rfl) (load_u8 W _ _ _ (cell_bel P1.out hB)) (hK _ (Below.refl _ _))⟩
      · exact .inl ⟨.inr ⟨3, true, _, rfl, ⟨⟨3, .guard⟩, by simp, rfl, rfl⟩, rfl, rfl, by decide, rfl⟩, fun a' W hB hold he K hK => fx_bin .neq 5 5 (.tmp 207) (.const (.int .u8 3)) _ _ _ rfl (he ⟨14, .data⟩ (by simp) rfl) rfl (by kernel_rfl) (by kernel_rfl) (hK _ (Below.refl _ _))⟩
      · exact .inl ⟨.inl rfl, fun a' W hB hold he K hK => fx_pick (.tmp 196) (.tmp 208) (.const (.bool false)) true _ rfl (he ⟨3, .data⟩ (by simp) rfl) (he ⟨15, .data⟩ (by simp) rfl) (hK _ (Below.refl _ _))⟩
      · exact .inl ⟨.inl rfl, fun a' W hB hold he K hK => fx_move (.tmp 209) _ (.inl rfl) (he ⟨16, .data⟩ (by simp) rfl) (hK _ (Below.refl _ _))⟩
      · exact .inl ⟨.inr ⟨17, false, _, rfl, ⟨⟨17, .guard⟩, by simp, rfl, rfl⟩, rfl, rfl, by decide, rfl⟩, fun a' W hB hold he K hK => fx_field 46 (.tmp 11) 1 _ _ rfl ((hold 11 (by decide)).trans o11) (by kernel_rfl) (hK _ (Below.refl _ _))⟩
      · exact .inl ⟨.inr ⟨17, false, _, rfl, ⟨⟨17, .guard⟩, by simp, rfl, rfl⟩, rfl, rfl, by decide, rfl⟩, fun a' W hB hold he K hK => wp_step_load 5 (.tmp 211) _ rfl _ (he ⟨18, .data⟩ (by simp) rfl) (load_u8 W _ _ _ (cell_bel L1.out hB)) (hK _ (Below.refl _ _))⟩
      · exact .inl ⟨.inr ⟨17, false, _, rfl, ⟨⟨17, .guard⟩, by simp, rfl, rfl⟩, rfl, rfl, by decide, rfl⟩, fun a' W hB hold he K hK => fx_bin .eql 5 5 (.tmp 212) (.const (.int .u8 4)) _ _ _ rfl (he ⟨19, .data⟩ (by simp) rfl) rfl (by kernel_rfl) (by kernel_rfl) (hK _ (Below.refl _ _))⟩
      · exact .inl ⟨.inr ⟨17, false, _, rfl, ⟨⟨17, .guard⟩, by simp, rfl, rfl⟩, rfl, rfl, by decide, rfl⟩, fun a' W hB hold he K hK => fx_move (.tmp 213) _ (.inl rfl) (he ⟨20, .data⟩ (by simp) rfl) (hK _ (Below.refl _ _))⟩
      · exact .inr ⟨rfl, rfl, 21, true, _, rfl, ⟨⟨21, .guard⟩, by simp, rfl, rfl⟩, rfl, rfl, by decide, by intro h; cases h⟩
      · exact .inr ⟨rfl, rfl, 21, true, _, rfl, ⟨⟨21, .guard⟩, by simp, rfl, rfl⟩, rfl, rfl, by decide, by intro h; cases h⟩
      · exact .inr ⟨rfl, rfl, 21, true, _, rfl, ⟨⟨21, .guard⟩, by simp, rfl, rfl⟩, rfl, rfl, by decide, by intro h; cases h⟩
      · exact .inr ⟨rfl, rfl, 21, true, _, rfl, ⟨⟨21, .guard⟩, by simp, rfl, rfl⟩, rfl, rfl, by decide, by intro h; cases h⟩
      · exact .inr ⟨rfl, rfl, 21, true, _, rfl, ⟨⟨21, .guard⟩, by simp, rfl, rfl⟩, rfl, rfl, by decide, by intro h; cases h⟩
      · exact .inr ⟨rfl, rfl, 21, true, _, rfl, ⟨⟨21, .guard⟩, by simp, rfl, rfl⟩, rfl, rfl, by decide, by intro h; cases h⟩
      · exact .inr ⟨rfl, rfl, 21, true, _, rfl, ⟨⟨21, .guard⟩, by simp, rfl, rfl⟩, rfl, rfl, by decide, by intro h; cases h⟩
      · exact .inr ⟨rfl, rfl, 21, true, _, rfl, ⟨⟨21, .guard⟩, by simp, rfl, rfl⟩, rfl, rfl, by decide, by intro h; cases h⟩
      · exact .inr ⟨rfl, rfl, 21, true, _, rfl, ⟨⟨21, .guard⟩, by simp, rfl, rfl⟩, rfl, rfl, by decide, by intro h; cases h⟩
      · exact .inr ⟨rfl, rfl, 21, true, _, rfl, ⟨⟨21, .guard⟩, by simp, rfl, rfl⟩, rfl, rfl, by decide, by intro h; cases h⟩
      · exact .inr ⟨rfl, rfl, 21, true, _, rfl, ⟨⟨21, .guard⟩, by simp, rfl, rfl⟩, rfl, rfl, by decide, by intro h; cases h⟩
      · exact .inr ⟨rfl, rfl, 21, true, _, rfl, ⟨⟨21, .guard⟩, by simp, rfl, rfl⟩, rfl, rfl, by decide, by intro h; cases h⟩
      · exact .inl ⟨.inr ⟨17, false, _, rfl, ⟨⟨17, .guard⟩, by simp, rfl, rfl⟩, rfl, rfl, by decide, rfl⟩, fun a' W hB hold he K hK => fx_pick (.tmp 214) (.tmp 226) (.const (.bool false)) false _ rfl (he ⟨21, .data⟩ (by simp) rfl) rfl (hK _ (Below.refl _ _))⟩
  intro W9 hB9
  simp only [putAll, List.length_cons, List.length_nil, Nat.reduceAdd, List.drop_succ_cons, List.drop_zero]
  have HB9 := hide (bel_trans HB8.out hB9)
  have HH9 := hide (HH8.out.below hB9 HH8.out.lt)
  clear hB9
  go_wp2_with fail
  refine ⟨?_, by have := HKN.out; simp [sndMu, intOf]; omega⟩
  unfold SndWI
  refine ⟨_, _, _, _, _, _, _, _, _, _, _, _, _, _, _, _, _, _, _, _, _, _, _, _, _, _, _, _, _, _, _, _, _, _, _, _, _, _, _, _, _, _, _, _, _, _, _, _, _, _, _, _, _, _, _, _, _, _, _, _, _, _, _, _, _, _, _, _, _, _, _, _, _, _, _, _, _, _, _, _, _, _, _, _, _, _, _, _, _, _, _, _, _, _, _, _, _, _, _, _, _, _, _, _, _, _, _, _, _, _, _, _, _, _, _, _, _, _, _, _, _, _, _, _, _, _, _, _, _, _, _, _, _, _, _, _, _, _, _, _, _, _, _, _, _, _, _, _, _, _, _, _, _, _, _, _, ?_, rfl⟩
  exact ⟨k + 1, by have := HKN.out; omega, by rw [show (((k + 1 : Nat)) : Int) = (k : Int) + 1 by omega], HH9.out, HB9.out⟩
end Go.Proofs.Ytkflofjcjolehaa

/-! Types: a round of Sound's inner loop. -/
namespace Go.Proofs.Ytkflofjcjolehaa
open Go.RowKit Go.Proofs.YtkflofjcjolehaaW.PrintWords
set_option maxHeartbeats 40000000
set_option maxRecDepth 1000000
set_option linter.unusedSimpArgs false
set_option linter.unusedVariables false

theorem snd_way4 (s1 s3 s4 s5 s6 s8 s9 s15 s16 s17 s18 s19 s20 s21 s22 s23 s24 s25 s26 s27 s28 s29 s30 s31 s32 s33 s34 s35 s36 s37 s38 s39 s40 s41 s42 s43 s44 s45 s46 s47 s48 s49 s50 s51 s52 s53 s54 s55 s56 s57 s58 s59 s60 s61 s62 s63 s64 s65 s66 s67 s68 s69 s70 s71 s72 s73 s74 s75 s76 s77 s78 s229 s230 s231 s232 s233 s234 s235 s236 s237 s238 s239 s240 s241 s242 s243 s244 s245 s246 s247 s248 s249 s250 s251 s252 s253 s254 s255 s256 s257 s258 s259 s260 s261 s262 s263 s264 : Value) (s2 s11 s12 s13 s14 s79 s80 s81 s82 s83 s84 s85 s86 s87 s88 s89 s90 s91 s92 s93 s94 s95 s96 s97 s98 s99 s100 s101 s102 s103 s104 s105 s106 s107 s108 s109 s110 s111 s112 s113 s114 s115 s116 s117 s118 s119 s120 s121 s122 s123 s124 s125 s126 s127 s128 s129 s130 s131 s132 s133 s134 s135 s136 s137 s138 s139 s140 s141 s142 s143 s144 s145 s146 s147 s148 s149 s150 s151 s152 s153 s154 s155 s156 s157 s158 s159 s160 s161 s162 s163 s164 s165 s166 s167 s168 s169 s170 s171 s172 s173 s174 s175 s176 s177 s178 s179 s180 s181 s182 s183 s184 s185 s186 s187 s188 s189 s190 s191 s192 s193 s194 s195 s196 s197 s198 s199 s200 s201 s202 s203 s204 s205 s206 s207 s208 s209 s210 s211 s212 s213 s214 s215 s216 s217 s218 s219 s220 s221 s222 s223 s224 s225 s226 s227 s228 : Value) (w : World) (cb off n c : Nat) (l : List Tp) (i : Nat) (t : Tp) (A2 : Option Addr) (N c2 g : Nat) (wr : World) (X : SndIn w l cb off n c i t A2 N c2) (k : Nat) (hkN : k < N) (hH : Has wr g 44 #[.string t.nm, .int .i64 t.sz, .slice A2 N c2]) (hB : Below w.heap.size w wr) (f : Fl) (hf : t.fs[k]? = some f) (hkd : f.kd = 4) (QX : Exit → Act → World → Prop) :
    Code.wp Try.prog sndInner (Exit.then (fun a' w'' => SndWI s1 s3 s4 s5 s6 s8 s9 s15 s16 s17 s18 s19 s20 s21 s22 s23 s24 s25 s26 s27 s28 s29 s30 s31 s32 s33 s34 s35 s36 s37 s38 s39 s40 s41 s42 s43 s44 s45 s46 s47 s48 s49 s50 s51 s52 s53 s54 s55 s56 s57 s58 s59 s60 s61 s62 s63 s64 s65 s66 s67 s68 s69 s70 s71 s72 s73 s74 s75 s76 s77 s78 s229 s230 s231 s232 s233 s234 s235 s236 s237 s238 s239 s240 s241 s242 s243 s244 s245 s246 s247 s248 s249 s250 s251 s252 s253 s254 s255 s256 s257 s258 s259 s260 s261 s262 s263 s264 w cb off n c g t.nm t.sz A2 N c2 a' w'' ∧ sndMu N a' w'' < sndMu N ⟨#[.slice (some ⟨cb, off, none⟩) n c, s1, s2, s3, s4, s5, s6, .pointer (some ⟨g, 0, none⟩), s8, s9, .int .i64 (k : Int), s11, s12, s13, s14, s15, s16, s17, s18, s19, s20, s21, s22, s23, s24, s25, s26, s27, s28, s29, s30, s31, s32, s33, s34, s35, s36, s37, s38, s39, s40, s41, s42, s43, s44, s45, s46, s47, s48, s49, s50, s51, s52, s53, s54, s55, s56, s57, s58, s59, s60, s61, s62, s63, s64, s65, s66, s67, s68, s69, s70, s71, s72, s73, s74, s75, s76, s77, s78, s79, s80, s81, s82, s83, s84, s85, s86, s87, s88, s89, s90, s91, s92, s93, s94, s95, s96, s97, s98, s99, s100, s101, s102, s103, s104, s105, s106, s107, s108, s109, s110, s111, s112, s113, s114, s115, s116, s117, s118, s119, s120, s121, s122, s123, s124, s125, s126, s127, s128, s129, s130, s131, s132, s133, s134, s135, s136, s137, s138, s139, s140, s141, s142, s143, s144, s145, s146, s147, s148, s149, s150, s151, s152, s153, s154, s155, s156, s157, s158, s159, s160, s161, s162, s163, s164, s165, s166, s167, s168, s169, s170, s171, s172, s173, s174, s175, s176, s177, s178, s179, s180, s181, s182, s183, s184, s185, s186, s187, s188, s189, s190, s191, s192, s193, s194, s195, s196, s197, s198, s199, s200, s201, s202, s203, s204, s205, s206, s207, s208, s209, s210, s211, s212, s213, s214, s215, s216, s217, s218, s219, s220, s221, s222, s223, s224, s225, s226, s227, s228, s229, s230, s231, s232, s233, s234, s235, s236, s237, s238, s239, s240, s241, s242, s243, s244, s245, s246, s247, s248, s249, s250, s251, s252, s253, s254, s255, s256, s257, s258, s259, s260, s261, s262, s263, s264], []⟩ wr) QX) ⟨#[.slice (some ⟨cb, off, none⟩) n c, s1, s2, s3, s4, s5, s6, .pointer (some ⟨g, 0, none⟩), s8, s9, .int .i64 (k : Int), s11, s12, s13, s14, s15, s16, s17, s18, s19, s20, s21, s22, s23, s24, s25, s26, s27, s28, s29, s30, s31, s32, s33, s34, s35, s36, s37, s38, s39, s40, s41, s42, s43, s44, s45, s46, s47, s48, s49, s50, s51, s52, s53, s54, s55, s56, s57, s58, s59, s60, s61, s62, s63, s64, s65, s66, s67, s68, s69, s70, s71, s72, s73, s74, s75, s76, s77, s78, s79, s80, s81, s82, s83, s84, s85, s86, s87, s88, s89, s90, s91, s92, s93, s94, s95, s96, s97, s98, s99, s100, s101, s102, s103, s104, s105, s106, s107, s108, s109, s110, s111, s112, s113, s114, s115, s116, s117, s118, s119, s120, s121, s122, s123, s124, s125, s126, s127, s128, s129, s130, s131, s132, s133, s134, s135, s136, s137, s138, s139, s140, s141, s142, s143, s144, s145, s146, s147, s148, s149, s150, s151, s152, s153, s154, s155, s156, s157, s158, s159, s160, s161, s162, s163, s164, s165, s166, s167, s168, s169, s170, s171, s172, s173, s174, s175, s176, s177, s178, s179, s180, s181, s182, s183, s184, s185, s186, s187, s188, s189, s190, s191, s192, s193, s194, s195, s196, s197, s198, s199, s200, s201, s202, s203, s204, s205, s206, s207, s208, s209, s210, s211, s212, s213, s214, s215, s216, s217, s218, s219, s220, s221, s222, s223, s224, s225, s226, s227, s228, s229, s230, s231, s232, s233, s234, s235, s236, s237, s238, s239, s240, s241, s242, s243, s244, s245, s246, s247, s248, s249, s250, s251, s252, s253, s254, s255, s256, s257, s258, s259, s260, s261, s262, s263, s264], []⟩ wr := by
  have HN := hide X.num
  have HF := hide X.fs
  have HT := hide X.ok
  have HBH := hide X.bh
  have HTM := hide X.at_
  have HL := hide X.len
  have HC := hide X.mem
  have HMAY := hide X.may
  have HFN := hide X.fn
  have HN32 := hide X.n32
  have hn32 : n ≤ 32 := X.n32
  have HAT := hide (fun W (hW : Below w.heap.size w W) x => ty_at W t.nm t.sz A2 c2 t.fs N HN.out (Kd.C_below HF.out hW) x)
  have HH := hide hH
  have HB := hide hB
  clear hB X
  have g0 := hH.cell 0
  have g1 := hH.cell 1
  have g2 := hH.cell 2
  simp at g0 g1 g2
  clear hH
  conv => arg 2; whnf
  have HKD := hide hkd
  clear hkd
  have hk1 : (k : Int) < N := by omega
  have hk0 : (0 : Int) ≤ k := by omega
  obtain ⟨fb, fo, rfl, e0, e1, e2, e3, e4⟩ := fl_at HF.out HB.out hf
  have HFK := hide (HT.out.fields k f hf)
  have HFM := hide (List.mem_of_getElem? hf)
  have HHO := hide (snd_holds HBH.out hf)
  obtain ⟨h, hh⟩ : ∃ h, wr.heap.size = h := ⟨_, rfl⟩
  have HL0 : Hid (Has (wr.alloc (.cells #[.string f.nm, .int .u8 f.kd, .int .i64 f.at_, .int .i64 f.of, .int .i64 f.node] 46)) h 46 #[.string f.nm, .int .u8 f.kd, .int .i64 f.at_, .int .i64 f.of, .int .i64 f.node]) := hide (by rw [← hh]; exact Has.new _ _ _)
  have HB1 := hide (bel_trans HB.out (below_box wr (.cells #[.string f.nm, .int .u8 f.kd, .int .i64 f.at_, .int .i64 f.of, .int .i64 f.node] 46)))
  have HH1 := hide (HH.out.alloc (.cells #[.string f.nm, .int .u8 f.kd, .int .i64 f.at_, .int .i64 f.of, .int .i64 f.node] 46))
  have HATE := hide (HAT.out _ HB1.out f.at_)
  rw [snd_at HT.out hf, show max (k : Int) 0 = k by omega, decide_eq_true hk0] at HATE
  have HKN := hide hkN
  have hgh : g ≠ h := by have := HH.out.lt; omega
  have y0 := HH1.out.cell 0
  have y1 := HH1.out.cell 1
  have y2 := HH1.out.cell 2
  have l2 := HL0.out.cell 2
  simp at y0 y1 y2 l2
  clear hf hkN
  go_wp2_with fail
  refine HATE.out.mono ?_
  rintro e w6 ⟨rfl, hb⟩
  have HB6 := hide (bel_trans HB1.out hb)
  have HH6 := hide (HH1.out.below hb HH1.out.lt)
  have HL6 := hide (HL0.out.below hb HL0.out.lt)
  clear hb HATE HL0 HH1 HB1 HB HH g0 g1 g2 e0 e1 e2 e3 e4 y0 y1 y2 l2
  go_wp2_with fail
  have L0 := hide (HL6.out.cell 0)
  have L1 := hide (HL6.out.cell 1)
  have L2 := hide (HL6.out.cell 2)
  have GC1 := hide (HH6.out.cell 1)
  have hfk := HFK.out.at0
  have hfz := HT.out.size
  have hfs := HFK.out.kind
  have HSB : Hid (∀ W, Calls Try.prog 21 #[.int .u8 f.kd] W fun e w' => e = .returned (.int .i64 (szK f.kd)) ∧ Below W.heap.size W w') := hide (fun W => (ty_size W f.kd).mono (by rintro e w' ⟨rfl, rfl⟩; exact ⟨rfl, Below.refl _ _⟩))
  have HM2 : Hid (∀ W, Calls Try.prog 23 #[.string f.nm] W fun e w' => e = .returned (.bool true) ∧ Below W.heap.size W w') := hide (fun W => by have := HMAY.out W f.nm (HFN.out f HFM.out); rwa [HFK.out.name] at this)
  have HNS := hide (fun W => neq_same (k : Int) W)
  have hre : f.at_.tmod 8 = 0 := by rw [Int.tmod_eq_emod_of_nonneg hfk.1]; exact hfk.2.1
  have HREM := hide (fun W : World => show (binOp .rem 3 (.int .i64 f.at_) (.int .i64 8)).run Try.prog W = .ok (.int .i64 0) W by simp [go_sem, hre, w64, wrap64])
  have HLSS := hide (fun W : World => show (binOp .lss 3 (.int .i64 f.at_) (.int .i64 0)).run Try.prog W = .ok (.bool false) W by simp [go_sem]; omega)
  have v1 : IntKind.i64.wrap (f.at_ + szK f.kd) = f.at_ + szK f.kd := by rw [w64]; unfold wrap64; omega
  have HADD := hide (fun W : World => show (binOp .add 3 (.int .i64 f.at_) (.int .i64 (szK f.kd))).run Try.prog W = .ok (.int .i64 (f.at_ + szK f.kd)) W by simp [go_sem, v1])
  have HGTR := hide (fun W => gtr_no (f.at_ + szK f.kd) t.sz (by omega) W)
  clear hfk hfz hfs v1 hre
  refine wp_region_abs [7, 10, 11, 12, 13] [98, 99, 100, 101, 102, 103, 104, 105, 106, 107, 108, 109, 110, 111, 112, 113, 114, 115, 116, 117, 118, 119, 120, 121, 122, 123, 124, 125, 126, 127, 128, 129, 130, 131]
    [.int .i64 (k : Int), .int .i64 (k : Int), .bool false, .bool false, .bool true, .bool false, .bool false, .bool false, .pointer (some ⟨h, 2, none⟩), .int .i64 f.at_, .int .i64 0, .bool false, .bool false, .bool false, .pointer (some ⟨h, 2, none⟩), .int .i64 f.at_, .bool false, .bool false, .bool false, .pointer (some ⟨h, 2, none⟩), .int .i64 f.at_, .pointer (some ⟨h, 1, none⟩), .int .u8 f.kd, .int .i64 (szK f.kd), .int .i64 (f.at_ + szK f.kd), .pointer (some ⟨g, 1, none⟩), .int .i64 t.sz, .bool false, .bool false, .bool false, .pointer (some ⟨h, 0, none⟩), .string f.nm, .bool true, .bool false] (by kernel_rfl) (by simp) rfl (by kernel_rfl) (by kernel_rfl) (by kernel_rfl) (by simp) (by decide) ?_ ?_
  · intro Q' a0 hT
    have o7 : a0.eval (.tmp 7) = .pointer (some ⟨g, 0, none⟩) := hT 7 (by simp)
    have o10 : a0.eval (.tmp 10) = .int .i64 (k : Int) := hT 10 (by simp)
    have o11 : a0.eval (.tmp 11) = .pointer (some ⟨h, 0, none⟩) := hT 11 (by simp)
    have o12 : a0.eval (.tmp 12) = .int .i64 (k : Int) := hT 12 (by simp)
    have o13 : a0.eval (.tmp 13) = .bool true := hT 13 (by simp)
    clear hT
    as_aux_lemma =>
      refine ⟨?_, ?_, ?_, ?_, ?_, ?_, ?_, ?_, ?_, ?_, ?_, ?_, ?_, ?_, ?_, ?_, ?_, ?_, ?_, ?_, ?_, ?_, ?_, ?_, ?_, ?_, ?_, ?_, ?_, ?_, ?_, ?_, ?_, ?_, trivial⟩
      · exact .inl ⟨.inl rfl, fun a' W hB hold he K hK => fx_move (.tmp 12) _ (.inl rfl) ((hold 12 (by decide)).trans o12) (hK _ (Below.refl _ _))⟩
      · exact .inl ⟨.inl rfl, fun a' W hB hold he K hK => fx_move (.tmp 10) _ (.inl rfl) ((hold 10 (by decide)).trans o10) (hK _ (Below.refl _ _))⟩
      · exact .inl ⟨.inl rfl, fun a' W hB hold he K hK => fx_bin .neq 3 3 (.tmp 98) (.tmp 99) _ _ _ rfl (he ⟨0, .data⟩ (by simp) rfl) (he ⟨1, .data⟩ (by simp) rfl) rfl (HNS.out _) (hK _ (Below.refl _ _))⟩
      · exact .inl ⟨.inl rfl, fun a' W hB hold he K hK => fx_move (.tmp 100) _ (.inl rfl) (he ⟨2, .data⟩ (by simp) rfl) (hK _ (Below.refl _ _))⟩
      · exact .inl ⟨.inr ⟨3, false, _, rfl, ⟨⟨3, .guard⟩, by simp, rfl, rfl⟩, rfl, rfl, by decide, rfl⟩, fun a' W hB hold he K hK => fx_move (.tmp 13) _ (.inl rfl) ((hold 13 (by decide)).trans o13) (hK _ (Below.refl _ _))⟩
      · exact .inl ⟨.inr ⟨3, false, _, rfl, ⟨⟨3, .guard⟩, by simp, rfl, rfl⟩, rfl, rfl, by decide, rfl⟩, fun a' W hB hold he K hK => fx_not 4 (.tmp 102) _ rfl (he ⟨4, .data⟩ (by simp) rfl) (hK _ (Below.refl _ _))⟩
      · exact .inl ⟨.inl rfl, fun a' W hB hold he K hK => fx_pick (.tmp 101) (.const (.bool true)) (.tmp 103) false _ rfl (he ⟨3, .data⟩ (by simp) rfl) (he ⟨5, .data⟩ (by simp) rfl) (hK _ (Below.refl _ _))⟩
      · exact .inl ⟨.inl rfl, fun a' W hB hold he K hK => fx_move (.tmp 104) _ (.inl rfl) (he ⟨6, .data⟩ (by simp) rfl) (hK _ (Below.refl _ _))⟩
      · exact .inl ⟨.inr ⟨7, false, _, rfl, ⟨⟨7, .guard⟩, by simp, rfl, rfl⟩, rfl, rfl, by decide, rfl⟩, fun a' W hB hold he K hK => fx_field 46 (.tmp 11) 2 _ _ rfl ((hold 11 (by decide)).trans o11) (by kernel_rfl) (hK _ (Below.refl _ _))⟩
      · exact .inl ⟨.inr ⟨7, false, _, rfl, ⟨⟨7, .guard⟩, by simp, rfl, rfl⟩, rfl, rfl, by decide, rfl⟩, fun a' W hB hold he K hK => wp_step_load 3 (.tmp 106) _ rfl _ (he ⟨8, .data⟩ (by simp) rfl) (load_int W _ _ _ (cell_bel L2.out hB)) (hK _ (Below.refl _ _))⟩
      · exact .inl ⟨.inr ⟨7, false, _, rfl, ⟨⟨7, .guard⟩, by simp, rfl, rfl⟩, rfl, rfl, by decide, rfl⟩, fun a' W hB hold he K hK => fx_bin .rem 3 3 (.tmp 107) (.const (.int .i64 8)) _ _ _ rfl (he ⟨9, .data⟩ (by simp) rfl) rfl rfl (HREM.out _) (hK _ (Below.refl _ _))⟩
      · exact .inl ⟨.inr ⟨7, false, _, rfl, ⟨⟨7, .guard⟩, by simp, rfl, rfl⟩, rfl, rfl, by decide, rfl⟩, fun a' W hB hold he K hK => fx_bin .neq 3 3 (.tmp 108) (.const (.int .i64 0)) _ _ _ rfl (he ⟨10, .data⟩ (by simp) rfl) rfl (by kernel_rfl) (by kernel_rfl) (hK _ (Below.refl _ _))⟩
      · exact .inl ⟨.inl rfl, fun a' W hB hold he K hK => fx_pick (.tmp 105) (.const (.bool true)) (.tmp 109) false _ rfl (he ⟨7, .data⟩ (by simp) rfl) (he ⟨11, .data⟩ (by simp) rfl) (hK _ (Below.refl _ _))⟩
      · exact .inl ⟨.inl rfl, fun a' W hB hold he K hK => fx_move (.tmp 110) _ (.inl rfl) (he ⟨12, .data⟩ (by simp) rfl) (hK _ (Below.refl _ _))⟩
      · exact .inl ⟨.inr ⟨13, false, _, rfl, ⟨⟨13, .guard⟩, by simp, rfl, rfl⟩, rfl, rfl, by decide, rfl⟩, fun a' W hB hold he K hK => fx_field 46 (.tmp 11) 2 _ _ rfl ((hold 11 (by decide)).trans o11) (by kernel_rfl) (hK _ (Below.refl _ _))⟩
      · exact .inl ⟨.inr ⟨13, false, _, rfl, ⟨⟨13, .guard⟩, by simp, rfl, rfl⟩, rfl, rfl, by decide, rfl⟩, fun a' W hB hold he K hK => wp_step_load 3 (.tmp 112) _ rfl _ (he ⟨14, .data⟩ (by simp) rfl) (load_int W _ _ _ (cell_bel L2.out hB)) (hK _ (Below.refl _ _))⟩
      · exact .inl ⟨.inr ⟨13, false, _, rfl, ⟨⟨13, .guard⟩, by simp, rfl, rfl⟩, rfl, rfl, by decide, rfl⟩, fun a' W hB hold he K hK => fx_bin .lss 3 3 (.tmp 113) (.const (.int .i64 0)) _ _ _ rfl (he ⟨15, .data⟩ (by simp) rfl) rfl rfl (HLSS.out _) (hK _ (Below.refl _ _))⟩
      · exact .inl ⟨.inl rfl, fun a' W hB hold he K hK => fx_pick (.tmp 111) (.const (.bool true)) (.tmp 114) false _ rfl (he ⟨13, .data⟩ (by simp) rfl) (he ⟨16, .data⟩ (by simp) rfl) (hK _ (Below.refl _ _))⟩
      · exact .inl ⟨.inl rfl, fun a' W hB hold he K hK => fx_move (.tmp 115) _ (.inl rfl) (he ⟨17, .data⟩ (by simp) rfl) (hK _ (Below.refl _ _))⟩
      · exact .inl ⟨.inr ⟨18, false, _, rfl, ⟨⟨18, .guard⟩, by simp, rfl, rfl⟩, rfl, rfl, by decide, rfl⟩, fun a' W hB hold he K hK => fx_field 46 (.tmp 11) 2 _ _ rfl ((hold 11 (by decide)).trans o11) (by kernel_rfl) (hK _ (Below.refl _ _))⟩
      · exact .inl ⟨.inr ⟨18, false, _, rfl, ⟨⟨18, .guard⟩, by simp, rfl, rfl⟩, rfl, rfl, by decide, rfl⟩, fun a' W hB hold he K hK => wp_step_load 3 (.tmp 117) _ rfl _ (he ⟨19, .data⟩ (by simp) rfl) (load_int W _ _ _ (cell_bel L2.out hB)) (hK _ (Below.refl _ _))⟩
      · exact .inl ⟨.inr ⟨18, false, _, rfl, ⟨⟨18, .guard⟩, by simp, rfl, rfl⟩, rfl, rfl, by decide, rfl⟩, fun a' W hB hold he K hK => fx_field 46 (.tmp 11) 1 _ _ rfl ((hold 11 (by decide)).trans o11) (by kernel_rfl) (hK _ (Below.refl _ _))⟩
      · exact .inl ⟨.inr ⟨18, false, _, rfl, ⟨⟨18, .guard⟩, by simp, rfl, rfl⟩, rfl, rfl, by decide, rfl⟩, fun a' W hB hold he K hK => wp_step_load 5 (.tmp 119) _ rfl _ (he ⟨21, .data⟩ (by simp) rfl) (load_u8 W _ _ _ (cell_bel L1.out hB)) (hK _ (Below.refl _ _))⟩
      · exact .inl ⟨.inr ⟨18, false, _, rfl, ⟨⟨18, .guard⟩, by simp, rfl, rfl⟩, rfl, rfl, by decide, rfl⟩, fun a' W hB hold he K hK => (by have h0 : a'.eval (.tmp 120) = _ := (he ⟨22, .data⟩ (by simp) rfl); exact wp_step_call 21 #[_] (by simp only [execOp, h0]; simp [go_sem] <;> (simp [Act.eval] at h0; simp [h0])) ((HSB.out W).mono (by rintro e1 w' ⟨rfl, hb⟩; exact ⟨_, rfl, hK _ hb⟩)))⟩
      · exact .inl ⟨.inr ⟨18, false, _, rfl, ⟨⟨18, .guard⟩, by simp, rfl, rfl⟩, rfl, rfl, by decide, rfl⟩, fun a' W hB hold he K hK => fx_bin .add 3 3 (.tmp 118) (.tmp 121) _ _ _ rfl (he ⟨20, .data⟩ (by simp) rfl) (he ⟨23, .data⟩ (by simp) rfl) rfl (HADD.out _) (hK _ (Below.refl _ _))⟩
      · exact .inl ⟨.inr ⟨18, false, _, rfl, ⟨⟨18, .guard⟩, by simp, rfl, rfl⟩, rfl, rfl, by decide, rfl⟩, fun a' W hB hold he K hK => fx_field 44 (.tmp 7) 1 _ _ rfl ((hold 7 (by decide)).trans o7) (by kernel_rfl) (hK _ (Below.refl _ _))⟩
      · exact .inl ⟨.inr ⟨18, false, _, rfl, ⟨⟨18, .guard⟩, by simp, rfl, rfl⟩, rfl, rfl, by decide, rfl⟩, fun a' W hB hold he K hK => wp_step_load 3 (.tmp 123) _ rfl _ (he ⟨25, .data⟩ (by simp) rfl) (load_int W _ _ _ (cell_bel GC1.out hB)) (hK _ (Below.refl _ _))⟩
      · exact .inl ⟨.inr ⟨18, false, _, rfl, ⟨⟨18, .guard⟩, by simp, rfl, rfl⟩, rfl, rfl, by decide, rfl⟩, fun a' W hB hold he K hK => fx_bin .gtr 3 3 (.tmp 122) (.tmp 124) _ _ _ rfl (he ⟨24, .data⟩ (by simp) rfl) (he ⟨26, .data⟩ (by simp) rfl) rfl (HGTR.out _) (hK _ (Below.refl _ _))⟩
      · exact .inl ⟨.inl rfl, fun a' W hB hold he K hK => fx_pick (.tmp 116) (.const (.bool true)) (.tmp 125) false _ rfl (he ⟨18, .data⟩ (by simp) rfl) (he ⟨27, .data⟩ (by simp) rfl) (hK _ (Below.refl _ _))⟩
      · exact .inl ⟨.inl rfl, fun a' W hB hold he K hK => fx_move (.tmp 126) _ (.inl rfl) (he ⟨28, .data⟩ (by simp) rfl) (hK _ (Below.refl _ _))⟩
      · exact .inl ⟨.inr ⟨29, false, _, rfl, ⟨⟨29, .guard⟩, by simp, rfl, rfl⟩, rfl, rfl, by decide, rfl⟩, fun a' W hB hold he K hK => fx_field 46 (.tmp 11) 0 _ _ rfl ((hold 11 (by decide)).trans o11) (by kernel_rfl) (hK _ (Below.refl _ _))⟩
      · exact .inl ⟨.inr ⟨29, false, _, rfl, ⟨⟨29, .guard⟩, by simp, rfl, rfl⟩, rfl, rfl, by decide, rfl⟩, fun a' W hB hold he K hK => wp_step_load 9 (.tmp 128) _ rfl _ (he ⟨30, .data⟩ (by simp) rfl) (load_str W _ _ _ (cell_bel L0.out hB)) (hK _ (Below.refl _ _))⟩
      · exact .inl ⟨.inr ⟨29, false, _, rfl, ⟨⟨29, .guard⟩, by simp, rfl, rfl⟩, rfl, rfl, by decide, rfl⟩, fun a' W hB hold he K hK => (by have h0 : a'.eval (.tmp 129) = _ := (he ⟨31, .data⟩ (by simp) rfl); exact wp_step_call 23 #[_] (by simp only [execOp, h0]; simp [go_sem] <;> (simp [Act.eval] at h0; simp [h0])) ((HM2.out W).mono (by rintro e1 w' ⟨rfl, hb⟩; exact ⟨_, rfl, hK _ hb⟩)))⟩
      · exact .inl ⟨.inr ⟨29, false, _, rfl, ⟨⟨29, .guard⟩, by simp, rfl, rfl⟩, rfl, rfl, by decide, rfl⟩, fun a' W hB hold he K hK => fx_not 4 (.tmp 130) _ rfl (he ⟨32, .data⟩ (by simp) rfl) (hK _ (Below.refl _ _))⟩
  intro W hB5
  simp only [putAll, List.length_cons, List.length_nil, Nat.reduceAdd, List.drop_succ_cons, List.drop_zero]
  have HB7 := hide (bel_trans HB6.out hB5)
  have HH7 := hide (HH6.out.below hB5 HH6.out.lt)
  have HL7 := hide (HL6.out.below hB5 HL6.out.lt)
  clear hB5
  clear HNS HREM HLSS HADD HGTR HSB HM2 L0 L1 L2 GC1 HL6 HH6 HB6
  have HFD := hide HFK.out.kind
  have v3 : IntKind.i64.wrap ((k : Int) + 1) = (k : Int) + 1 := by rw [w64]; unfold wrap64; have := HT.out.few; have := HN.out; have := HKN.out; omega
  have l1 := HL7.out.cell 1
  simp at l1
  have hkd := HKD.out
  clear HKD
  rw [hkd] at l1
  obtain ⟨hh1, hh2⟩ := snd_h4 HHO.out hkd
  obtain ⟨m, u, hof, hm, hu, huo⟩ := snd_obj hh1
  rw [hof] at hh2
  obtain ⟨q, y, hno, hq, hy, hyk⟩ := snd_by hu hh2
  obtain ⟨cb1, off1, A3, c3, hA, u0, u1, u2, hl3, hFu⟩ := tp_at HC.out HB7.out hu
  injection hA with hA
  injection hA with hA1 hA2
  subst hA1
  subst hA2
  obtain ⟨U, hU⟩ : ∃ U, u.fs.length = U := ⟨_, rfl⟩
  rw [hU] at u2 hFu hl3 hq
  have hm1 : (m : Int) < n := by have := HL.out; omega
  have hm0 : (0 : Int) ≤ m := by omega
  have HOB := hide (fun W9 (hW : Below w.heap.size w W9) => ty_object W9 u.nm u.sz A3 c3 u.fs U hU (Kd.C_below hFu hW))
  rw [huo] at HOB
  obtain ⟨fb2, fo2, rfl, p0, p1, p2, p3, p4⟩ := fl_at hFu HB7.out hy
  rw [hyk] at p1
  have hq1 : (q : Int) < U := by omega
  have hq0 : (0 : Int) ≤ q := by omega
  have P1 := hide p1
  have L4 : Hid (W.cell? ⟨h, 4, none⟩ = some (.int .i64 (q : Int))) := hide (by have := HL7.out.cell 4; rw [hno] at this; exact this)
  have Q0 := hide (fun W : World => show (binOp .lss 3 (.int .i64 (q : Int)) (.int .i64 0)).run Try.prog W = .ok (.bool false) W by simp [go_sem])
  have Q1 := hide (fun W : World => show (binOp .geq 3 (.int .i64 (q : Int)) (.int .i64 (U : Int))).run Try.prog W = .ok (.bool false) W by simp [go_sem]; omega)
  clear p0 p1 p2 p3 p4 hyk hno hy hq hh1 hh2
  have L3 : Hid (W.cell? ⟨h, 3, none⟩ = some (.int .i64 (m : Int))) := hide (by have := HL7.out.cell 3; rw [hof] at this; exact this)
  have U0 := hide u0
  have U1 := hide u1
  have U2 := hide u2
  have M0 := hide (fun W : World => show (binOp .lss 3 (.int .i64 (m : Int)) (.int .i64 0)).run Try.prog W = .ok (.bool false) W by simp [go_sem])
  have M1 := hide (fun W : World => show (binOp .geq 3 (.int .i64 (m : Int)) (.int .i64 (n : Int))).run Try.prog W = .ok (.bool false) W by simp [go_sem]; omega)
  have L1 := hide l1
  clear u0 u1 u2 hU hFu hl3 huo hu hm hof hkd
  go_wp2_with fail
  refine wp_region_abs [0, 11, 14] [146, 147, 148, 149, 150, 151, 152, 153, 154, 155, 156, 157, 158, 159, 160, 161, 162, 163, 164, 165, 166, 167, 168, 169, 170, 171, 172, 173, 174, 175, 176, 177, 178, 179, 180, 181, 182, 183, 184, 185, 186, 187, 188, 189, 190, 191]
    [.bool true, .bool true, .pointer (some ⟨h, 3, none⟩), .int .i64 (m : Int), .bool false, .bool false, .pointer (some ⟨h, 3, none⟩), .int .i64 (m : Int), .slice (some ⟨cb, off, none⟩) n c, .int .i64 (n : Int), .bool false, .bool false, .bool false, .slice (some ⟨cb, off, none⟩) n c, .pointer (some ⟨h, 3, none⟩), .int .i64 (m : Int), .pointer (some ⟨cb, off + m * 3, none⟩), .agg #[.string u.nm, .int .i64 u.sz, .slice (some ⟨fb2, fo2, none⟩) U c3], .bool true, .bool false, .bool false, .bool false, .bool false, .pointer (some ⟨h, 1, none⟩), .int .u8 4, .bool true, .bool true, .bool true, .bool true, .bool true, .pointer (some ⟨h, 4, none⟩), .int .i64 (q : Int), .bool false, .bool false, .pointer (some ⟨h, 4, none⟩), .int .i64 (q : Int), .slice (some ⟨cb, off, none⟩) n c, .pointer (some ⟨h, 3, none⟩), .int .i64 (m : Int), .pointer (some ⟨cb, off + m * 3, none⟩), .pointer (some ⟨cb, off + m * 3 + 2, none⟩), .slice (some ⟨fb2, fo2, none⟩) U c3, .int .i64 (U : Int), .bool false, .bool false, .bool false] (by kernel_rfl) (by simp) rfl (by kernel_rfl) (by kernel_rfl) (by kernel_rfl) (by simp) (by decide) ?_ ?_
  · intro Q' a0 hT
    have o0 : a0.eval (.tmp 0) = .slice (some ⟨cb, off, none⟩) n c := hT 0 (by simp)
    have o11 : a0.eval (.tmp 11) = .pointer (some ⟨h, 0, none⟩) := hT 11 (by simp)
    have o14 : a0.eval (.tmp 14) = .bool true := hT 14 (by simp)
    clear hT
    as_aux_lemma =>
      refine ⟨?_, ?_, ?_, ?_, ?_, ?_, ?_, ?_, ?_, ?_, ?_, ?_, ?_, ?_, ?_, ?_, ?_, ?_, ?_, ?_, ?_, ?_, ?_, ?_, ?_, ?_, ?_, ?_, ?_, ?_, ?_, ?_, ?_, ?_, ?_, ?_, ?_, ?_, ?_, ?_, ?_, ?_, ?_, ?_, ?_, ?_, trivial⟩
      · exact .inl ⟨.inl rfl, fun a' W hB hold he K hK => fx_move (.tmp 14) _ (.inl rfl) ((hold 14 (by decide)).trans o14) (hK _ (Below.refl _ _))⟩
      · exact .inl ⟨.inl rfl, fun a' W hB hold he K hK => fx_move (.tmp 146) _ (.inl rfl) (he ⟨0, .data⟩ (by simp) rfl) (hK _ (Below.refl _ _))⟩
      · exact .inl ⟨.inr ⟨1, true, _, rfl, ⟨⟨1, .guard⟩, by simp, rfl, rfl⟩, rfl, rfl, by decide, rfl⟩, fun a' W hB hold he K hK => fx_field 46 (.tmp 11) 3 _ _ rfl ((hold 11 (by decide)).trans o11) (by kernel_rfl) (hK _ (Below.refl _ _))⟩
      · exact .inl ⟨.inr ⟨1, true, _, rfl, ⟨⟨1, .guard⟩, by simp, rfl, rfl⟩, rfl, rfl, by decide, rfl⟩, fun a' W hB hold he K hK => wp_step_load 3 (.tmp 148) _ rfl _ (he ⟨2, .data⟩ (by simp) rfl) (load_int W _ _ _ (cell_bel L3.out hB)) (hK _ (Below.refl _ _))⟩
      · exact .inl ⟨.inr ⟨1, true, _, rfl, ⟨⟨1, .guard⟩, by simp, rfl, rfl⟩, rfl, rfl, by decide, rfl⟩, fun a' W hB hold he K hK => fx_bin .lss 3 3 (.tmp 149) (.const (.int .i64 0)) _ _ _ rfl (he ⟨3, .data⟩ (by simp) rfl) rfl rfl (M0.out _) (hK _ (Below.refl _ _))⟩
      · exact .inl ⟨.inr ⟨1, true, _, rfl, ⟨⟨1, .guard⟩, by simp, rfl, rfl⟩, rfl, rfl, by decide, rfl⟩, fun a' W hB hold he K hK => fx_move (.tmp 150) _ (.inl rfl) (he ⟨4, .data⟩ (by simp) rfl) (hK _ (Below.refl _ _))⟩
      · exact .inl ⟨.inr ⟨5, false, _, rfl, ⟨⟨5, .guard⟩, by simp, rfl, rfl⟩, rfl, rfl, by decide, rfl⟩, fun a' W hB hold he K hK => fx_field 46 (.tmp 11) 3 _ _ rfl ((hold 11 (by decide)).trans o11) (by kernel_rfl) (hK _ (Below.refl _ _))⟩
      · exact .inl ⟨.inr ⟨5, false, _, rfl, ⟨⟨5, .guard⟩, by simp, rfl, rfl⟩, rfl, rfl, by decide, rfl⟩, fun a' W hB hold he K hK => wp_step_load 3 (.tmp 152) _ rfl _ (he ⟨6, .data⟩ (by simp) rfl) (load_int W _ _ _ (cell_bel L3.out hB)) (hK _ (Below.refl _ _))⟩
      · exact .inl ⟨.inr ⟨5, false, _, rfl, ⟨⟨5, .guard⟩, by simp, rfl, rfl⟩, rfl, rfl, by decide, rfl⟩, fun a' W hB hold he K hK => fx_move (.tmp 0) _ (.inl rfl) ((hold 0 (by decide)).trans o0) (hK _ (Below.refl _ _))⟩
      · exact .inl ⟨.inr ⟨5, false, _, rfl, ⟨⟨5, .guard⟩, by simp, rfl, rfl⟩, rfl, rfl, by decide, rfl⟩, fun a' W hB hold he K hK => (by have h0 : a'.eval (.tmp 154) = .slice (some ⟨cb, off, none⟩) n c := (he ⟨8, .data⟩ (by simp) rfl); have h1 : a'.tmps[154]?.getD undef = .slice (some ⟨cb, off, none⟩) n c := (by simpa [Act.eval] using h0); exact wp_step_run _ (by simp only [execOp]; simp [go_sem]; rw [h1]; rfl) (hK _ (Below.refl _ _)))⟩
      · exact .inl ⟨.inr ⟨5, false, _, rfl, ⟨⟨5, .guard⟩, by simp, rfl, rfl⟩, rfl, rfl, by decide, rfl⟩, fun a' W hB hold he K hK => fx_bin .geq 3 3 (.tmp 153) (.tmp 155) _ _ _ rfl (he ⟨7, .data⟩ (by simp) rfl) (he ⟨9, .data⟩ (by simp) rfl) rfl (M1.out _) (hK _ (Below.refl _ _))⟩
      · exact .inl ⟨.inr ⟨1, true, _, rfl, ⟨⟨1, .guard⟩, by simp, rfl, rfl⟩, rfl, rfl, by decide, rfl⟩, fun a' W hB hold he K hK => fx_pick (.tmp 151) (.const (.bool true)) (.tmp 156) false _ rfl (he ⟨5, .data⟩ (by simp) rfl) (he ⟨10, .data⟩ (by simp) rfl) (hK _ (Below.refl _ _))⟩
      · exact .inl ⟨.inr ⟨1, true, _, rfl, ⟨⟨1, .guard⟩, by simp, rfl, rfl⟩, rfl, rfl, by decide, rfl⟩, fun a' W hB hold he K hK => fx_move (.tmp 157) _ (.inl rfl) (he ⟨11, .data⟩ (by simp) rfl) (hK _ (Below.refl _ _))⟩
      · exact .inl ⟨.inr ⟨12, false, _, rfl, ⟨⟨12, .guard⟩, by simp, rfl, rfl⟩, rfl, rfl, by decide, rfl⟩, fun a' W hB hold he K hK => fx_move (.tmp 0) _ (.inl rfl) ((hold 0 (by decide)).trans o0) (hK _ (Below.refl _ _))⟩
      · exact .inl ⟨.inr ⟨12, false, _, rfl, ⟨⟨12, .guard⟩, by simp, rfl, rfl⟩, rfl, rfl, by decide, rfl⟩, fun a' W hB hold he K hK => fx_field 46 (.tmp 11) 3 _ _ rfl ((hold 11 (by decide)).trans o11) (by kernel_rfl) (hK _ (Below.refl _ _))⟩
      · exact .inl ⟨.inr ⟨12, false, _, rfl, ⟨⟨12, .guard⟩, by simp, rfl, rfl⟩, rfl, rfl, by decide, rfl⟩, fun a' W hB hold he K hK => wp_step_load 3 (.tmp 160) _ rfl _ (he ⟨14, .data⟩ (by simp) rfl) (load_int W _ _ _ (cell_bel L3.out hB)) (hK _ (Below.refl _ _))⟩
      · exact .inl ⟨.inr ⟨12, false, _, rfl, ⟨⟨12, .guard⟩, by simp, rfl, rfl⟩, rfl, rfl, by decide, rfl⟩, fun a' W hB hold he K hK => (by have h0 : a'.eval (.tmp 159) = _ := (he ⟨13, .data⟩ (by simp) rfl); have h1 : a'.eval (.tmp 161) = _ := (he ⟨15, .data⟩ (by simp) rfl); exact wp_step_run (.pointer (some ⟨cb, off + m * 3, none⟩)) (by simp only [execOp, h0, h1]; go_simp) (hK _ (Below.refl _ _)))⟩
      · exact .inl ⟨.inr ⟨12, false, _, rfl, ⟨⟨12, .guard⟩, by simp, rfl, rfl⟩, rfl, rfl, by decide, rfl⟩, fun a' W hB hold he K hK => wp_step_load 44 (.tmp 162) _ rfl _ (he ⟨16, .data⟩ (by simp) rfl) (ld_tpo W _ _ _ _ _ _ _ (cell_bel U0.out hB) (cell_bel U1.out hB) (cell_bel U2.out hB)) (hK _ (Below.refl _ _))⟩
      · exact .inl ⟨.inr ⟨12, false, _, rfl, ⟨⟨12, .guard⟩, by simp, rfl, rfl⟩, rfl, rfl, by decide, rfl⟩, fun a' W hB hold he K hK => (by have h0 : a'.eval (.tmp 163) = _ := (he ⟨17, .data⟩ (by simp) rfl); exact wp_step_call 26 #[_] (by simp only [execOp, h0]; simp [go_sem] <;> (simp [Act.eval] at h0; simp [h0])) ((HOB.out W (bel_trans HB7.out hB)).mono (by rintro e1 w' ⟨rfl, hb⟩; exact ⟨_, rfl, hK _ hb⟩)))⟩
      · exact .inl ⟨.inr ⟨12, false, _, rfl, ⟨⟨12, .guard⟩, by simp, rfl, rfl⟩, rfl, rfl, by decide, rfl⟩, fun a' W hB hold he K hK => fx_not 4 (.tmp 164) _ rfl (he ⟨18, .data⟩ (by simp) rfl) (hK _ (Below.refl _ _))⟩
      · exact .inl ⟨.inr ⟨1, true, _, rfl, ⟨⟨1, .guard⟩, by simp, rfl, rfl⟩, rfl, rfl, by decide, rfl⟩, fun a' W hB hold he K hK => fx_pick (.tmp 158) (.const (.bool true)) (.tmp 165) false _ rfl (he ⟨12, .data⟩ (by simp) rfl) (he ⟨19, .data⟩ (by simp) rfl) (hK _ (Below.refl _ _))⟩
      · exact .inl ⟨.inl rfl, fun a' W hB hold he K hK => fx_pick (.tmp 147) (.tmp 166) (.const (.bool false)) true _ rfl (he ⟨1, .data⟩ (by simp) rfl) (he ⟨20, .data⟩ (by simp) rfl) (hK _ (Below.refl _ _))⟩
      · exact .inl ⟨.inl rfl, fun a' W hB hold he K hK => fx_move (.tmp 167) _ (.inl rfl) (he ⟨21, .data⟩ (by simp) rfl) (hK _ (Below.refl _ _))⟩
      · exact .inl ⟨.inr ⟨22, false, _, rfl, ⟨⟨22, .guard⟩, by simp, rfl, rfl⟩, rfl, rfl, by decide, rfl⟩, fun a' W hB hold he K hK => fx_field 46 (.tmp 11) 1 _ _ rfl ((hold 11 (by decide)).trans o11) (by kernel_rfl) (hK _ (Below.refl _ _))⟩
      · exact .inl ⟨.inr ⟨22, false, _, rfl, ⟨⟨22, .guard⟩, by simp, rfl, rfl⟩, rfl, rfl, by decide, rfl⟩, fun a' W hB hold he K hK => wp_step_load 5 (.tmp 169) _ rfl _ (he ⟨23, .data⟩ (by simp) rfl) (load_u8 W _ _ _ (cell_bel L1.out hB)) (hK _ (Below.refl _ _))⟩
      · exact .inl ⟨.inr ⟨22, false, _, rfl, ⟨⟨22, .guard⟩, by simp, rfl, rfl⟩, rfl, rfl, by decide, rfl⟩, fun a' W hB hold he K hK => fx_bin .neq 5 5 (.tmp 170) (.const (.int .u8 1)) _ _ _ rfl (he ⟨24, .data⟩ (by simp) rfl) rfl (by kernel_rfl) (by kernel_rfl) (hK _ (Below.refl _ _))⟩
      · exact .inl ⟨.inr ⟨22, false, _, rfl, ⟨⟨22, .guard⟩, by simp, rfl, rfl⟩, rfl, rfl, by decide, rfl⟩, fun a' W hB hold he K hK => fx_move (.tmp 171) _ (.inl rfl) (he ⟨25, .data⟩ (by simp) rfl) (hK _ (Below.refl _ _))⟩
      · exact .inl ⟨.inr ⟨26, true, _, rfl, ⟨⟨26, .guard⟩, by simp, rfl, rfl⟩, rfl, rfl, by decide, rfl⟩, fun a' W hB hold he K hK => fx_move (.tmp 14) _ (.inl rfl) ((hold 14 (by decide)).trans o14) (hK _ (Below.refl _ _))⟩
      · exact .inl ⟨.inr ⟨22, false, _, rfl, ⟨⟨22, .guard⟩, by simp, rfl, rfl⟩, rfl, rfl, by decide, rfl⟩, fun a' W hB hold he K hK => fx_pick (.tmp 172) (.tmp 173) (.const (.bool false)) true _ rfl (he ⟨26, .data⟩ (by simp) rfl) (he ⟨27, .data⟩ (by simp) rfl) (hK _ (Below.refl _ _))⟩
      · exact .inl ⟨.inr ⟨22, false, _, rfl, ⟨⟨22, .guard⟩, by simp, rfl, rfl⟩, rfl, rfl, by decide, rfl⟩, fun a' W hB hold he K hK => fx_move (.tmp 174) _ (.inl rfl) (he ⟨28, .data⟩ (by simp) rfl) (hK _ (Below.refl _ _))⟩
      · exact .inl ⟨.inr ⟨29, true, _, rfl, ⟨⟨29, .guard⟩, by simp, rfl, rfl⟩, rfl, rfl, by decide, rfl⟩, fun a' W hB hold he K hK => fx_field 46 (.tmp 11) 4 _ _ rfl ((hold 11 (by decide)).trans o11) (by kernel_rfl) (hK _ (Below.refl _ _))⟩
      · exact .inl ⟨.inr ⟨29, true, _, rfl, ⟨⟨29, .guard⟩, by simp, rfl, rfl⟩, rfl, rfl, by decide, rfl⟩, fun a' W hB hold he K hK => wp_step_load 3 (.tmp 176) _ rfl _ (he ⟨30, .data⟩ (by simp) rfl) (load_int W _ _ _ (cell_bel L4.out hB)) (hK _ (Below.refl _ _))⟩
      · exact .inl ⟨.inr ⟨29, true, _, rfl, ⟨⟨29, .guard⟩, by simp, rfl, rfl⟩, rfl, rfl, by decide, rfl⟩, fun a' W hB hold he K hK => fx_bin .lss 3 3 (.tmp 177) (.const (.int .i64 0)) _ _ _ rfl (he ⟨31, .data⟩ (by simp) rfl) rfl rfl (Q0.out _) (hK _ (Below.refl _ _))⟩
      · exact .inl ⟨.inr ⟨29, true, _, rfl, ⟨⟨29, .guard⟩, by simp, rfl, rfl⟩, rfl, rfl, by decide, rfl⟩, fun a' W hB hold he K hK => fx_move (.tmp 178) _ (.inl rfl) (he ⟨32, .data⟩ (by simp) rfl) (hK _ (Below.refl _ _))⟩
      · exact .inl ⟨.inr ⟨33, false, _, rfl, ⟨⟨33, .guard⟩, by simp, rfl, rfl⟩, rfl, rfl, by decide, rfl⟩, fun a' W hB hold he K hK => fx_field 46 (.tmp 11) 4 _ _ rfl ((hold 11 (by decide)).trans o11) (by kernel_rfl) (hK _ (Below.refl _ _))⟩
      · exact .inl ⟨.inr ⟨33, false, _, rfl, ⟨⟨33, .guard⟩, by simp, rfl, rfl⟩, rfl, rfl, by decide, rfl⟩, fun a' W hB hold he K hK => wp_step_load 3 (.tmp 180) _ rfl _ (he ⟨34, .data⟩ (by simp) rfl) (load_int W _ _ _ (cell_bel L4.out hB)) (hK _ (Below.refl _ _))⟩
      · exact .inl ⟨.inr ⟨33, false, _, rfl, ⟨⟨33, .guard⟩, by simp, rfl, rfl⟩, rfl, rfl, by decide, rfl⟩, fun a' W hB hold he K hK => fx_move (.tmp 0) _ (.inl rfl) ((hold 0 (by decide)).trans o0) (hK _ (Below.refl _ _))⟩
      · exact .inl ⟨.inr ⟨33, false, _, rfl, ⟨⟨33, .guard⟩, by simp, rfl, rfl⟩, rfl, rfl, by decide, rfl⟩, fun a' W hB hold he K hK => fx_field 46 (.tmp 11) 3 _ _ rfl ((hold 11 (by decide)).trans o11) (by kernel_rfl) (hK _ (Below.refl _ _))⟩
      · exact .inl ⟨.inr ⟨33, false, _, rfl, ⟨⟨33, .guard⟩, by simp, rfl, rfl⟩, rfl, rfl, by decide, rfl⟩, fun a' W hB hold he K hK => wp_step_load 3 (.tmp 183) _ rfl _ (he ⟨37, .data⟩ (by simp) rfl) (load_int W _ _ _ (cell_bel L3.out hB)) (hK _ (Below.refl _ _))⟩
      · exact .inl ⟨.inr ⟨33, false, _, rfl, ⟨⟨33, .guard⟩, by simp, rfl, rfl⟩, rfl, rfl, by decide, rfl⟩, fun a' W hB hold he K hK => (by have h0 : a'.eval (.tmp 182) = _ := (he ⟨36, .data⟩ (by simp) rfl); have h1 : a'.eval (.tmp 184) = _ := (he ⟨38, .data⟩ (by simp) rfl); exact wp_step_run (.pointer (some ⟨cb, off + m * 3, none⟩)) (by simp only [execOp, h0, h1]; go_simp) (hK _ (Below.refl _ _)))⟩
      · exact .inl ⟨.inr ⟨33, false, _, rfl, ⟨⟨33, .guard⟩, by simp, rfl, rfl⟩, rfl, rfl, by decide, rfl⟩, fun a' W hB hold he K hK => fx_field 44 (.tmp 185) 2 _ _ rfl (he ⟨39, .data⟩ (by simp) rfl) (by kernel_rfl) (hK _ (Below.refl _ _))⟩
      · exact .inl ⟨.inr ⟨33, false, _, rfl, ⟨⟨33, .guard⟩, by simp, rfl, rfl⟩, rfl, rfl, by decide, rfl⟩, fun a' W hB hold he K hK => wp_step_load 42 (.tmp 186) _ rfl _ (he ⟨40, .data⟩ (by simp) rfl) (load_fs W _ _ _ _ _ (cell_bel U2.out hB)) (hK _ (Below.refl _ _))⟩
      · exact .inl ⟨.inr ⟨33, false, _, rfl, ⟨⟨33, .guard⟩, by simp, rfl, rfl⟩, rfl, rfl, by decide, rfl⟩, fun a' W hB hold he K hK => (by have h0 : a'.eval (.tmp 187) = .slice (some ⟨fb2, fo2, none⟩) U c3 := (he ⟨41, .data⟩ (by simp) rfl); have h1 : a'.tmps[187]?.getD undef = .slice (some ⟨fb2, fo2, none⟩) U c3 := (by simpa [Act.eval] using h0); exact wp_step_run _ (by simp only [execOp]; simp [go_sem]; rw [h1]; rfl) (hK _ (Below.refl _ _)))⟩
      · exact .inl ⟨.inr ⟨33, false, _, rfl, ⟨⟨33, .guard⟩, by simp, rfl, rfl⟩, rfl, rfl, by decide, rfl⟩, fun a' W hB hold he K hK => fx_bin .geq 3 3 (.tmp 181) (.tmp 188) _ _ _ rfl (he ⟨35, .data⟩ (by simp) rfl) (he ⟨42, .data⟩ (by simp) rfl) rfl (Q1.out _) (hK _ (Below.refl _ _))⟩
      · exact .inl ⟨.inr ⟨29, true, _, rfl, ⟨⟨29, .guard⟩, by simp, rfl, rfl⟩, rfl, rfl, by decide, rfl⟩, fun a' W hB hold he K hK => fx_pick (.tmp 179) (.const (.bool true)) (.tmp 189) false _ rfl (he ⟨33, .data⟩ (by simp) rfl) (he ⟨43, .data⟩ (by simp) rfl) (hK _ (Below.refl _ _))⟩
      · exact .inl ⟨.inr ⟨22, false, _, rfl, ⟨⟨22, .guard⟩, by simp, rfl, rfl⟩, rfl, rfl, by decide, rfl⟩, fun a' W hB hold he K hK => fx_pick (.tmp 175) (.tmp 190) (.const (.bool false)) true _ rfl (he ⟨29, .data⟩ (by simp) rfl) (he ⟨44, .data⟩ (by simp) rfl) (hK _ (Below.refl _ _))⟩
  intro W8 hB8
  simp only [putAll, List.length_cons, List.length_nil, Nat.reduceAdd, List.drop_succ_cons, List.drop_zero]
  have HB8 := hide (bel_trans HB7.out hB8)
  have HH8 := hide (HH7.out.below hB8 HH7.out.lt)
  replace L1 := hide (cell_bel L1.out hB8)
  replace L3 := hide (cell_bel L3.out hB8)
  replace U2 := hide (cell_bel U2.out hB8)
  replace L4 := hide (cell_bel L4.out hB8)
  replace P1 := hide (cell_bel P1.out hB8)
  clear hB8 l1
  go_wp2_with fail
  refine wp_region_abs [0, 11] [193, 194, 195, 196, 197, 198, 199, 200, 201, 202, 203, 204, 205, 206, 207, 208, 209, 210, 211, 212, 213, 214, 215, 216, 217, 218, 219, 220, 221, 222, 223, 224, 225, 226, 227]
    [.pointer (some ⟨h, 1, none⟩), .int .u8 4, .bool false, .bool false, undef, undef, undef, undef, undef, undef, undef, undef, undef, undef, undef, undef, .bool false, .bool false, .pointer (some ⟨h, 1, none⟩), .int .u8 4, .bool true, .bool true, .slice (some ⟨cb, off, none⟩) n c, .pointer (some ⟨h, 3, none⟩), .int .i64 (m : Int), .pointer (some ⟨cb, off + m * 3, none⟩), .pointer (some ⟨cb, off + m * 3 + 2, none⟩), .slice (some ⟨fb2, fo2, none⟩) U c3, .pointer (some ⟨h, 4, none⟩), .int .i64 (q : Int), .pointer (some ⟨fb2, fo2 + q * 5, none⟩), .pointer (some ⟨fb2, fo2 + q * 5 + 1, none⟩), .int .u8 5, .bool false, .bool false] (by kernel_rfl) (by simp) rfl (by kernel_rfl) (by kernel_rfl) (by kernel_rfl) (by simp) (by decide) ?_ ?_
  · intro Q' a0 hT
    have o0 : a0.eval (.tmp 0) = .slice (some ⟨cb, off, none⟩) n c := hT 0 (by simp)
    have o11 : a0.eval (.tmp 11) = .pointer (some ⟨h, 0, none⟩) := hT 11 (by simp)
    clear hT
    as_aux_lemma =>
      refine ⟨?_, ?_, ?_, ?_, ?_, ?_, ?_, ?_, ?_, ?_, ?_, ?_, ?_, ?_, ?_, ?_, ?_, ?_, ?_, ?_, ?_, ?_, ?_, ?_, ?_, ?_, ?_, ?_, ?_, ?_, ?_, ?_, ?_, ?_, ?_, trivial⟩
      · exact .inl ⟨.inl rfl, fun a' W hB hold he K hK => fx_field 46 (.tmp 11) 1 _ _ rfl ((hold 11 (by decide)).trans o11) (by kernel_rfl) (hK _ (Below.refl _ _))⟩
      · exact .inl ⟨.inl rfl, fun a' W hB hold he K hK => wp_step_load 5 (.tmp 193) _ rfl _ (he ⟨0, .data⟩ (by simp) rfl) (load_u8 W _ _ _ (cell_bel L1.out hB)) (hK _ (Below.refl _ _))⟩
      · exact .inl ⟨.inl rfl, fun a' W hB hold he K hK => fx_bin .eql 5 5 (.tmp 194) (.const (.int .u8 2)) _ _ _ rfl (he ⟨1, .data⟩ (by simp) rfl) rfl (by kernel_rfl) (by kernel_rfl) (hK _ (Below.refl _ _))⟩
      · exact .inl ⟨.inl rfl, fun a' W hB hold he K hK => fx_move (.tmp 195) _ (.inl rfl) (he ⟨2, .data⟩ (by simp) rfl) (hK _ (Below.refl _ _))⟩
      · exact .inr ⟨rfl, rfl, 3, true, _, rfl, ⟨⟨3, .guard⟩, by simp, rfl, rfl⟩, rfl, rfl, by decide, by intro h; cases h⟩
      · exact .inr ⟨rfl, rfl, 3, true, _, rfl, ⟨⟨3, .guard⟩, by simp, rfl, rfl⟩, rfl, rfl, by decide, by intro h; cases h⟩
      · exact .inr ⟨rfl, rfl, 3, true, _, rfl, ⟨⟨3, .guard⟩, by simp, rfl, rfl⟩, rfl, rfl, by decide, by intro h; cases h⟩
      · exact .inr ⟨rfl, rfl, 3, true, _, rfl, ⟨⟨3, .guard⟩, by simp, rfl, rfl⟩, rfl, rfl, by decide, by intro h; cases h⟩
      · exact .inr ⟨rfl, rfl, 3, true, _, rfl, ⟨⟨3, .guard⟩, by simp, rfl, rfl⟩, rfl, rfl, by decide, by intro h; cases h⟩
      · exact .inr ⟨rfl, rfl, 3, true, _, rfl, ⟨⟨3, .guard⟩, by simp, rfl, rfl⟩, rfl, rfl, by decide, by intro h; cases h⟩
      · exact .inr ⟨rfl, rfl, 3, true, _, rfl, ⟨⟨3, .guard⟩, by simp, rfl, rfl⟩, rfl, rfl, by decide, by intro h; cases h⟩
      · exact .inr ⟨rfl, rfl, 3, true, _, rfl, ⟨⟨3, .guard⟩, by simp, rfl, rfl⟩, rfl, rfl, by decide, by intro h; cases h⟩
      · exact .inr ⟨rfl, rfl, 3, true, _, rfl, ⟨⟨3, .guard⟩, by simp, rfl, rfl⟩, rfl, rfl, by decide, by intro h; cases h⟩
      · exact .inr ⟨rfl, rfl, 3, true, _, rfl, ⟨⟨3, .guard⟩, by simp, rfl, rfl⟩, rfl, rfl, by decide, by intro h; cases h⟩
      · exact .inr ⟨rfl, rfl, 3, true, _, rfl, ⟨⟨3, .guard⟩, by simp, rfl, rfl⟩, rfl, rfl, by decide, by intro h; cases h⟩
      · exact .inr ⟨rfl, rfl, 3, true, _, rfl, ⟨⟨3, .guard⟩, by simp, rfl, rfl⟩, rfl, rfl, by decide, by intro h; cases h⟩
      · exact .inl ⟨.inl rfl, fun a' W hB hold he K hK => fx_pick (.tmp 196) (.tmp 208) (.const (.bool false)) false _ rfl (he ⟨3, .data⟩ (by simp) rfl) rfl (hK _ (Below.refl _ _))⟩
      · exact .inl ⟨.inl rfl, fun a' W hB hold he K hK => fx_move (.tmp 209) _ (.inl rfl) (he ⟨16, .data⟩ (by simp) rfl) (hK _ (Below.refl _ _))⟩
      · exact .inl ⟨.inr ⟨17, false, _, rfl, ⟨⟨17, .guard⟩, by simp, rfl, rfl⟩, rfl, rfl, by decide, rfl⟩, fun a' W hB hold he K hK => fx_field 46 (.tmp 11) 1 _ _ rfl ((hold 11 (by decide)).trans o11) (by kernel_rfl) (hK _ (Below.refl _ _))⟩
      · exact .inl ⟨.inr ⟨17, false, _, rfl, ⟨⟨17, .guard⟩, by simp, rfl, rfl⟩, rfl, rfl, by decide, rfl⟩, fun a' W hB hold he K hK => wp_step_load 5 (.tmp 211) _ rfl _ (he ⟨18, .data⟩ (by simp) rfl) (load_u8 W _ _ _ (cell_bel L1.out hB)) (hK _ (Below.refl _ _))⟩
      · exact .inl ⟨.inr ⟨17, false, _, rfl, ⟨⟨17, .guard⟩, by simp, rfl, rfl⟩, rfl, rfl, by decide, rfl⟩, fun a' W hB hold he K hK => fx_bin .eql 5 5 (.tmp 212) (.const (.int .u8 4)) _ _ _ rfl (he ⟨19, .data⟩ (by simp) rfl) rfl (by kernel_rfl) (by kernel_rfl) (hK _ (Below.refl _ _))⟩
      · exact .inl ⟨.inr ⟨17, false, _, rfl, ⟨⟨17, .guard⟩, by simp, rfl, rfl⟩, rfl, rfl, by decide, rfl⟩, fun a' W hB hold he K hK => fx_move (.tmp 213) _ (.inl rfl) (he ⟨20, .data⟩ (by simp) rfl) (hK _ (Below.refl _ _))⟩
      · exact .inl ⟨.inr ⟨21, true, _, rfl, ⟨⟨21, .guard⟩, by simp, rfl, rfl⟩, rfl, rfl, by decide, rfl⟩, fun a' W hB hold he K hK => fx_move (.tmp 0) _ (.inl rfl) ((hold 0 (by decide)).trans o0) (hK _ (Below.refl _ _))⟩
      · exact .inl ⟨.inr ⟨21, true, _, rfl, ⟨⟨21, .guard⟩, by simp, rfl, rfl⟩, rfl, rfl, by decide, rfl⟩, fun a' W hB hold he K hK => fx_field 46 (.tmp 11) 3 _ _ rfl ((hold 11 (by decide)).trans o11) (by kernel_rfl) (hK _ (Below.refl _ _))⟩
      · exact .inl ⟨.inr ⟨21, true, _, rfl, ⟨⟨21, .guard⟩, by simp, rfl, rfl⟩, rfl, rfl, by decide, rfl⟩, fun a' W hB hold he K hK => wp_step_load 3 (.tmp 216) _ rfl _ (he ⟨23, .data⟩ (by simp) rfl) (load_int W _ _ _ (cell_bel L3.out hB)) (hK _ (Below.refl _ _))⟩
      · exact .inl ⟨.inr ⟨21, true, _, rfl, ⟨⟨21, .guard⟩, by simp, rfl, rfl⟩, rfl, rfl, by decide, rfl⟩, fun a' W hB hold he K hK => (by have h0 : a'.eval (.tmp 215) = _ := (he ⟨22, .data⟩ (by simp) rfl); have h1 : a'.eval (.tmp 217) = _ := (he ⟨24, .data⟩ (by simp) rfl); exact wp_step_run (.pointer (some ⟨cb, off + m * 3, none⟩)) (by simp only [execOp, h0, h1]; go_simp) (hK _ (Below.refl _ _)))⟩
      · exact .inl ⟨.inr ⟨21, true, _, rfl, ⟨⟨21, .guard⟩, by simp, rfl, rfl⟩, rfl, rfl, by decide, rfl⟩, fun a' W hB hold he K hK => fx_field 44 (.tmp 218) 2 _ _ rfl (he ⟨25, .data⟩ (by simp) rfl) (by kernel_rfl) (hK _ (Below.refl _ _))⟩
      · exact .inl ⟨.inr ⟨21, true, _, rfl, ⟨⟨21, .guard⟩, by simp, rfl, rfl⟩, rfl, rfl, by decide, rfl⟩, fun a' W hB hold he K hK => wp_step_load 42 (.tmp 219) _ rfl _ (he ⟨26, .data⟩ (by simp) rfl) (load_fs W _ _ _ _ _ (cell_bel U2.out hB)) (hK _ (Below.refl _ _))⟩
      · exact .inl ⟨.inr ⟨21, true, _, rfl, ⟨⟨21, .guard⟩, by simp, rfl, rfl⟩, rfl, rfl, by decide, rfl⟩, fun a' W hB hold he K hK => fx_field 46 (.tmp 11) 4 _ _ rfl ((hold 11 (by decide)).trans o11) (by kernel_rfl) (hK _ (Below.refl _ _))⟩
      · exact .inl ⟨.inr ⟨21, true, _, rfl, ⟨⟨21, .guard⟩, by simp, rfl, rfl⟩, rfl, rfl, by decide, rfl⟩, fun a' W hB hold he K hK => wp_step_load 3 (.tmp 221) _ rfl _ (he ⟨28, .data⟩ (by simp) rfl) (load_int W _ _ _ (cell_bel L4.out hB)) (hK _ (Below.refl _ _))⟩
      · exact .inl ⟨.inr ⟨21, true, _, rfl, ⟨⟨21, .guard⟩, by simp, rfl, rfl⟩, rfl, rfl, by decide, rfl⟩, fun a' W hB hold he K hK => (by have h0 : a'.eval (.tmp 220) = _ := (he ⟨27, .data⟩ (by simp) rfl); have h1 : a'.eval (.tmp 222) = _ := (he ⟨29, .data⟩ (by simp) rfl); exact wp_step_run (.pointer (some ⟨fb2, fo2 + q * 5, none⟩)) (by simp only [execOp, h0, h1]; go_simp) (hK _ (Below.refl _ _)))⟩
      · exact .inl ⟨.inr ⟨21, true, _, rfl, ⟨⟨21, .guard⟩, by simp, rfl, rfl⟩, rfl, rfl, by decide, rfl⟩, fun a' W hB hold he K hK => fx_field 46 (.tmp 223) 1 _ _ rfl (he ⟨30, .data⟩ (by simp) rfl) (by kernel_rfl) (hK _ (Below.refl _ _))⟩
      · exact .inl ⟨.inr ⟨21, true, _, rfl, ⟨⟨21, .guard⟩, by simp, rfl, rfl⟩, rfl, rfl, by decide, rfl⟩, fun a' W hB hold he K hK => wp_step_load 5 (.tmp 224) _ rfl _ (he ⟨31, .data⟩ (by simp) rfl) (load_u8 W _ _ _ (cell_bel P1.out hB)) (hK _ (Below.refl _ _))⟩
      · exact .inl ⟨.inr ⟨21, true, _, rfl, ⟨⟨21, .guard⟩, by simp, rfl, rfl⟩, rfl, rfl, by decide, rfl⟩, fun a' W hB hold he K hK => fx_bin .neq 5 5 (.tmp 225) (.const (.int .u8 5)) _ _ _ rfl (he ⟨32, .data⟩ (by simp) rfl) rfl (by kernel_rfl) (by kernel_rfl) (hK _ (Below.refl _ _))⟩
      · exact .inl ⟨.inr ⟨17, false, _, rfl, ⟨⟨17, .guard⟩, by simp, rfl, rfl⟩, rfl, rfl, by decide, rfl⟩, fun a' W hB hold he K hK => fx_pick (.tmp 214) (.tmp 226) (.const (.bool false)) true _ rfl (he ⟨21, .data⟩ (by simp) rfl) (he ⟨33, .data⟩ (by simp) rfl) (hK _ (Below.refl _ _))⟩
  intro W9 hB9
  simp only [putAll, List.length_cons, List.length_nil, Nat.reduceAdd, List.drop_succ_cons, List.drop_zero]
  have HB9 := hide (bel_trans HB8.out hB9)
  have HH9 := hide (HH8.out.below hB9 HH8.out.lt)
  clear hB9
  go_wp2_with fail
  refine ⟨?_, by have := HKN.out; simp [sndMu, intOf]; omega⟩
  unfold SndWI
  refine ⟨_, _, _, _, _, _, _, _, _, _, _, _, _, _, _, _, _, _, _, _, _, _, _, _, _, _, _, _, _, _, _, _, _, _, _, _, _, _, _, _, _, _, _, _, _, _, _, _, _, _, _, _, _, _, _, _, _, _, _, _, _, _, _, _, _, _, _, _, _, _, _, _, _, _, _, _, _, _, _, _, _, _, _, _, _, _, _, _, _, _, _, _, _, _, _, _, _, _, _, _, _, _, _, _, _, _, _, _, _, _, _, _, _, _, _, _, _, _, _, _, _, _, _, _, _, _, _, _, _, _, _, _, _, _, _, _, _, _, _, _, _, _, _, _, _, _, _, _, _, _, _, _, _, _, _, _, ?_, rfl⟩
  exact ⟨k + 1, by have := HKN.out; omega, by rw [show (((k + 1 : Nat)) : Int) = (k : Int) + 1 by omega], HH9.out, HB9.out⟩
end Go.Proofs.Ytkflofjcjolehaa

/-! Types: a round of Sound's inner loop. -/
namespace Go.Proofs.Ytkflofjcjolehaa
open Go.RowKit Go.Proofs.YtkflofjcjolehaaW.PrintWords
set_option maxHeartbeats 40000000
set_option maxRecDepth 1000000
set_option linter.unusedSimpArgs false
set_option linter.unusedVariables false

theorem snd_wayE (s1 s3 s4 s5 s6 s8 s9 s15 s16 s17 s18 s19 s20 s21 s22 s23 s24 s25 s26 s27 s28 s29 s30 s31 s32 s33 s34 s35 s36 s37 s38 s39 s40 s41 s42 s43 s44 s45 s46 s47 s48 s49 s50 s51 s52 s53 s54 s55 s56 s57 s58 s59 s60 s61 s62 s63 s64 s65 s66 s67 s68 s69 s70 s71 s72 s73 s74 s75 s76 s77 s78 s229 s230 s231 s232 s233 s234 s235 s236 s237 s238 s239 s240 s241 s242 s243 s244 s245 s246 s247 s248 s249 s250 s251 s252 s253 s254 s255 s256 s257 s258 s259 s260 s261 s262 s263 s264 : Value) (s2 s11 s12 s13 s14 s79 s80 s81 s82 s83 s84 s85 s86 s87 s88 s89 s90 s91 s92 s93 s94 s95 s96 s97 s98 s99 s100 s101 s102 s103 s104 s105 s106 s107 s108 s109 s110 s111 s112 s113 s114 s115 s116 s117 s118 s119 s120 s121 s122 s123 s124 s125 s126 s127 s128 s129 s130 s131 s132 s133 s134 s135 s136 s137 s138 s139 s140 s141 s142 s143 s144 s145 s146 s147 s148 s149 s150 s151 s152 s153 s154 s155 s156 s157 s158 s159 s160 s161 s162 s163 s164 s165 s166 s167 s168 s169 s170 s171 s172 s173 s174 s175 s176 s177 s178 s179 s180 s181 s182 s183 s184 s185 s186 s187 s188 s189 s190 s191 s192 s193 s194 s195 s196 s197 s198 s199 s200 s201 s202 s203 s204 s205 s206 s207 s208 s209 s210 s211 s212 s213 s214 s215 s216 s217 s218 s219 s220 s221 s222 s223 s224 s225 s226 s227 s228 : Value) (w : World) (cb off n c : Nat) (l : List Tp) (i : Nat) (t : Tp) (A2 : Option Addr) (N c2 g : Nat) (wr : World) (X : SndIn w l cb off n c i t A2 N c2) (k : Nat) (hkN : k < N) (hH : Has wr g 44 #[.string t.nm, .int .i64 t.sz, .slice A2 N c2]) (hB : Below w.heap.size w wr) (f : Fl) (hf : t.fs[k]? = some f) (k1 : ¬ f.kd = 1) (k2 : ¬ f.kd = 2) (k4 : ¬ f.kd = 4) (QX : Exit → Act → World → Prop) :
    Code.wp Try.prog sndInner (Exit.then (fun a' w'' => SndWI s1 s3 s4 s5 s6 s8 s9 s15 s16 s17 s18 s19 s20 s21 s22 s23 s24 s25 s26 s27 s28 s29 s30 s31 s32 s33 s34 s35 s36 s37 s38 s39 s40 s41 s42 s43 s44 s45 s46 s47 s48 s49 s50 s51 s52 s53 s54 s55 s56 s57 s58 s59 s60 s61 s62 s63 s64 s65 s66 s67 s68 s69 s70 s71 s72 s73 s74 s75 s76 s77 s78 s229 s230 s231 s232 s233 s234 s235 s236 s237 s238 s239 s240 s241 s242 s243 s244 s245 s246 s247 s248 s249 s250 s251 s252 s253 s254 s255 s256 s257 s258 s259 s260 s261 s262 s263 s264 w cb off n c g t.nm t.sz A2 N c2 a' w'' ∧ sndMu N a' w'' < sndMu N ⟨#[.slice (some ⟨cb, off, none⟩) n c, s1, s2, s3, s4, s5, s6, .pointer (some ⟨g, 0, none⟩), s8, s9, .int .i64 (k : Int), s11, s12, s13, s14, s15, s16, s17, s18, s19, s20, s21, s22, s23, s24, s25, s26, s27, s28, s29, s30, s31, s32, s33, s34, s35, s36, s37, s38, s39, s40, s41, s42, s43, s44, s45, s46, s47, s48, s49, s50, s51, s52, s53, s54, s55, s56, s57, s58, s59, s60, s61, s62, s63, s64, s65, s66, s67, s68, s69, s70, s71, s72, s73, s74, s75, s76, s77, s78, s79, s80, s81, s82, s83, s84, s85, s86, s87, s88, s89, s90, s91, s92, s93, s94, s95, s96, s97, s98, s99, s100, s101, s102, s103, s104, s105, s106, s107, s108, s109, s110, s111, s112, s113, s114, s115, s116, s117, s118, s119, s120, s121, s122, s123, s124, s125, s126, s127, s128, s129, s130, s131, s132, s133, s134, s135, s136, s137, s138, s139, s140, s141, s142, s143, s144, s145, s146, s147, s148, s149, s150, s151, s152, s153, s154, s155, s156, s157, s158, s159, s160, s161, s162, s163, s164, s165, s166, s167, s168, s169, s170, s171, s172, s173, s174, s175, s176, s177, s178, s179, s180, s181, s182, s183, s184, s185, s186, s187, s188, s189, s190, s191, s192, s193, s194, s195, s196, s197, s198, s199, s200, s201, s202, s203, s204, s205, s206, s207, s208, s209, s210, s211, s212, s213, s214, s215, s216, s217, s218, s219, s220, s221, s222, s223, s224, s225, s226, s227, s228, s229, s230, s231, s232, s233, s234, s235, s236, s237, s238, s239, s240, s241, s242, s243, s244, s245, s246, s247, s248, s249, s250, s251, s252, s253, s254, s255, s256, s257, s258, s259, s260, s261, s262, s263, s264], []⟩ wr) QX) ⟨#[.slice (some ⟨cb, off, none⟩) n c, s1, s2, s3, s4, s5, s6, .pointer (some ⟨g, 0, none⟩), s8, s9, .int .i64 (k : Int), s11, s12, s13, s14, s15, s16, s17, s18, s19, s20, s21, s22, s23, s24, s25, s26, s27, s28, s29, s30, s31, s32, s33, s34, s35, s36, s37, s38, s39, s40, s41, s42, s43, s44, s45, s46, s47, s48, s49, s50, s51, s52, s53, s54, s55, s56, s57, s58, s59, s60, s61, s62, s63, s64, s65, s66, s67, s68, s69, s70, s71, s72, s73, s74, s75, s76, s77, s78, s79, s80, s81, s82, s83, s84, s85, s86, s87, s88, s89, s90, s91, s92, s93, s94, s95, s96, s97, s98, s99, s100, s101, s102, s103, s104, s105, s106, s107, s108, s109, s110, s111, s112, s113, s114, s115, s116, s117, s118, s119, s120, s121, s122, s123, s124, s125, s126, s127, s128, s129, s130, s131, s132, s133, s134, s135, s136, s137, s138, s139, s140, s141, s142, s143, s144, s145, s146, s147, s148, s149, s150, s151, s152, s153, s154, s155, s156, s157, s158, s159, s160, s161, s162, s163, s164, s165, s166, s167, s168, s169, s170, s171, s172, s173, s174, s175, s176, s177, s178, s179, s180, s181, s182, s183, s184, s185, s186, s187, s188, s189, s190, s191, s192, s193, s194, s195, s196, s197, s198, s199, s200, s201, s202, s203, s204, s205, s206, s207, s208, s209, s210, s211, s212, s213, s214, s215, s216, s217, s218, s219, s220, s221, s222, s223, s224, s225, s226, s227, s228, s229, s230, s231, s232, s233, s234, s235, s236, s237, s238, s239, s240, s241, s242, s243, s244, s245, s246, s247, s248, s249, s250, s251, s252, s253, s254, s255, s256, s257, s258, s259, s260, s261, s262, s263, s264], []⟩ wr := by
  have HN := hide X.num
  have HF := hide X.fs
  have HT := hide X.ok
  have HBH := hide X.bh
  have HTM := hide X.at_
  have HL := hide X.len
  have HC := hide X.mem
  have HMAY := hide X.may
  have HFN := hide X.fn
  have HN32 := hide X.n32
  have hn32 : n ≤ 32 := X.n32
  have HAT := hide (fun W (hW : Below w.heap.size w W) x => ty_at W t.nm t.sz A2 c2 t.fs N HN.out (Kd.C_below HF.out hW) x)
  have HH := hide hH
  have HB := hide hB
  clear hB X
  have g0 := hH.cell 0
  have g1 := hH.cell 1
  have g2 := hH.cell 2
  simp at g0 g1 g2
  clear hH
  conv => arg 2; whnf
  have K1 := hide k1
  have K2 := hide k2
  have K4 := hide k4
  clear k1 k2 k4
  have hk1 : (k : Int) < N := by omega
  have hk0 : (0 : Int) ≤ k := by omega
  obtain ⟨fb, fo, rfl, e0, e1, e2, e3, e4⟩ := fl_at HF.out HB.out hf
  have HFK := hide (HT.out.fields k f hf)
  have HFM := hide (List.mem_of_getElem? hf)
  have HHO := hide (snd_holds HBH.out hf)
  obtain ⟨h, hh⟩ : ∃ h, wr.heap.size = h := ⟨_, rfl⟩
  have HL0 : Hid (Has (wr.alloc (.cells #[.string f.nm, .int .u8 f.kd, .int .i64 f.at_, .int .i64 f.of, .int .i64 f.node] 46)) h 46 #[.string f.nm, .int .u8 f.kd, .int .i64 f.at_, .int .i64 f.of, .int .i64 f.node]) := hide (by rw [← hh]; exact Has.new _ _ _)
  have HB1 := hide (bel_trans HB.out (below_box wr (.cells #[.string f.nm, .int .u8 f.kd, .int .i64 f.at_, .int .i64 f.of, .int .i64 f.node] 46)))
  have HH1 := hide (HH.out.alloc (.cells #[.string f.nm, .int .u8 f.kd, .int .i64 f.at_, .int .i64 f.of, .int .i64 f.node] 46))
  have HATE := hide (HAT.out _ HB1.out f.at_)
  rw [snd_at HT.out hf, show max (k : Int) 0 = k by omega, decide_eq_true hk0] at HATE
  have HKN := hide hkN
  have hgh : g ≠ h := by have := HH.out.lt; omega
  have y0 := HH1.out.cell 0
  have y1 := HH1.out.cell 1
  have y2 := HH1.out.cell 2
  have l2 := HL0.out.cell 2
  simp at y0 y1 y2 l2
  clear hf hkN
  go_wp2_with fail
  refine HATE.out.mono ?_
  rintro e w6 ⟨rfl, hb⟩
  have HB6 := hide (bel_trans HB1.out hb)
  have HH6 := hide (HH1.out.below hb HH1.out.lt)
  have HL6 := hide (HL0.out.below hb HL0.out.lt)
  clear hb HATE HL0 HH1 HB1 HB HH g0 g1 g2 e0 e1 e2 e3 e4 y0 y1 y2 l2
  go_wp2_with fail
  have L0 := hide (HL6.out.cell 0)
  have L1 := hide (HL6.out.cell 1)
  have L2 := hide (HL6.out.cell 2)
  have GC1 := hide (HH6.out.cell 1)
  have hfk := HFK.out.at0
  have hfz := HT.out.size
  have hfs := HFK.out.kind
  have HSB : Hid (∀ W, Calls Try.prog 21 #[.int .u8 f.kd] W fun e w' => e = .returned (.int .i64 (szK f.kd)) ∧ Below W.heap.size W w') := hide (fun W => (ty_size W f.kd).mono (by rintro e w' ⟨rfl, rfl⟩; exact ⟨rfl, Below.refl _ _⟩))
  have HM2 : Hid (∀ W, Calls Try.prog 23 #[.string f.nm] W fun e w' => e = .returned (.bool true) ∧ Below W.heap.size W w') := hide (fun W => by have := HMAY.out W f.nm (HFN.out f HFM.out); rwa [HFK.out.name] at this)
  have HNS := hide (fun W => neq_same (k : Int) W)
  have hre : f.at_.tmod 8 = 0 := by rw [Int.tmod_eq_emod_of_nonneg hfk.1]; exact hfk.2.1
  have HREM := hide (fun W : World => show (binOp .rem 3 (.int .i64 f.at_) (.int .i64 8)).run Try.prog W = .ok (.int .i64 0) W by simp [go_sem, hre, w64, wrap64])
  have HLSS := hide (fun W : World => show (binOp .lss 3 (.int .i64 f.at_) (.int .i64 0)).run Try.prog W = .ok (.bool false) W by simp [go_sem]; omega)
  have v1 : IntKind.i64.wrap (f.at_ + szK f.kd) = f.at_ + szK f.kd := by rw [w64]; unfold wrap64; omega
  have HADD := hide (fun W : World => show (binOp .add 3 (.int .i64 f.at_) (.int .i64 (szK f.kd))).run Try.prog W = .ok (.int .i64 (f.at_ + szK f.kd)) W by simp [go_sem, v1])
  have HGTR := hide (fun W => gtr_no (f.at_ + szK f.kd) t.sz (by omega) W)
  clear hfk hfz hfs v1 hre
  refine wp_region_abs [7, 10, 11, 12, 13] [98, 99, 100, 101, 102, 103, 104, 105, 106, 107, 108, 109, 110, 111, 112, 113, 114, 115, 116, 117, 118, 119, 120, 121, 122, 123, 124, 125, 126, 127, 128, 129, 130, 131]
    [.int .i64 (k : Int), .int .i64 (k : Int), .bool false, .bool false, .bool true, .bool false, .bool false, .bool false, .pointer (some ⟨h, 2, none⟩), .int .i64 f.at_, .int .i64 0, .bool false, .bool false, .bool false, .pointer (some ⟨h, 2, none⟩), .int .i64 f.at_, .bool false, .bool false, .bool false, .pointer (some ⟨h, 2, none⟩), .int .i64 f.at_, .pointer (some ⟨h, 1, none⟩), .int .u8 f.kd, .int .i64 (szK f.kd), .int .i64 (f.at_ + szK f.kd), .pointer (some ⟨g, 1, none⟩), .int .i64 t.sz, .bool false, .bool false, .bool false, .pointer (some ⟨h, 0, none⟩), .string f.nm, .bool true, .bool false] (by kernel_rfl) (by simp) rfl (by kernel_rfl) (by kernel_rfl) (by kernel_rfl) (by simp) (by decide) ?_ ?_
  · intro Q' a0 hT
    have o7 : a0.eval (.tmp 7) = .pointer (some ⟨g, 0, none⟩) := hT 7 (by simp)
    have o10 : a0.eval (.tmp 10) = .int .i64 (k : Int) := hT 10 (by simp)
    have o11 : a0.eval (.tmp 11) = .pointer (some ⟨h, 0, none⟩) := hT 11 (by simp)
    have o12 : a0.eval (.tmp 12) = .int .i64 (k : Int) := hT 12 (by simp)
    have o13 : a0.eval (.tmp 13) = .bool true := hT 13 (by simp)
    clear hT
    as_aux_lemma =>
      refine ⟨?_, ?_, ?_, ?_, ?_, ?_, ?_, ?_, ?_, ?_, ?_, ?_, ?_, ?_, ?_, ?_, ?_, ?_, ?_, ?_, ?_, ?_, ?_, ?_, ?_, ?_, ?_, ?_, ?_, ?_, ?_, ?_, ?_, ?_, trivial⟩
      · exact .inl ⟨.inl rfl, fun a' W hB hold he K hK => fx_move (.tmp 12) _ (.inl rfl) ((hold 12 (by decide)).trans o12) (hK _ (Below.refl _ _))⟩
      · exact .inl ⟨.inl rfl, fun a' W hB hold he K hK => fx_move (.tmp 10) _ (.inl rfl) ((hold 10 (by decide)).trans o10) (hK _ (Below.refl _ _))⟩
      · exact .inl ⟨.inl rfl, fun a' W hB hold he K hK => fx_bin .neq 3 3 (.tmp 98) (.tmp 99) _ _ _ rfl (he ⟨0, .data⟩ (by simp) rfl) (he ⟨1, .data⟩ (by simp) rfl) rfl (HNS.out _) (hK _ (Below.refl _ _))⟩
      · exact .inl ⟨.inl rfl, fun a' W hB hold he K hK => fx_move (.tmp 100) _ (.inl rfl) (he ⟨2, .data⟩ (by simp) rfl) (hK _ (Below.refl _ _))⟩
      · exact .inl ⟨.inr ⟨3, false, _, rfl, ⟨⟨3, .guard⟩, by simp, rfl, rfl⟩, rfl, rfl, by decide, rfl⟩, fun a' W hB hold he K hK => fx_move (.tmp 13) _ (.inl rfl) ((hold 13 (by decide)).trans o13) (hK _ (Below.refl _ _))⟩
      · exact .inl ⟨.inr ⟨3, false, _, rfl, ⟨⟨3, .guard⟩, by simp, rfl, rfl⟩, rfl, rfl, by decide, rfl⟩, fun a' W hB hold he K hK => fx_not 4 (.tmp 102) _ rfl (he ⟨4, .data⟩ (by simp) rfl) (hK _ (Below.refl _ _))⟩
      · exact .inl ⟨.inl rfl, fun a' W hB hold he K hK => fx_pick (.tmp 101) (.const (.bool true)) (.tmp 103) false _ rfl (he ⟨3, .data⟩ (by simp) rfl) (he ⟨5, .data⟩ (by simp) rfl) (hK _ (Below.refl _ _))⟩
      · exact .inl ⟨.inl rfl, fun a' W hB hold he K hK => fx_move (.tmp 104) _ (.inl rfl) (he ⟨6, .data⟩ (by simp) rfl) (hK _ (Below.refl _ _))⟩
      · exact .inl ⟨.inr ⟨7, false, _, rfl, ⟨⟨7, .guard⟩, by simp, rfl, rfl⟩, rfl, rfl, by decide, rfl⟩, fun a' W hB hold he K hK => fx_field 46 (.tmp 11) 2 _ _ rfl ((hold 11 (by decide)).trans o11) (by kernel_rfl) (hK _ (Below.refl _ _))⟩
      · exact .inl ⟨.inr ⟨7, false, _, rfl, ⟨⟨7, .guard⟩, by simp, rfl, rfl⟩, rfl, rfl, by decide, rfl⟩, fun a' W hB hold he K hK => wp_step_load 3 (.tmp 106) _ rfl _ (he ⟨8, .data⟩ (by simp) rfl) (load_int W _ _ _ (cell_bel L2.out hB)) (hK _ (Below.refl _ _))⟩
      · exact .inl ⟨.inr ⟨7, false, _, rfl, ⟨⟨7, .guard⟩, by simp, rfl, rfl⟩, rfl, rfl, by decide, rfl⟩, fun a' W hB hold he K hK => fx_bin .rem 3 3 (.tmp 107) (.const (.int .i64 8)) _ _ _ rfl (he ⟨9, .data⟩ (by simp) rfl) rfl rfl (HREM.out _) (hK _ (Below.refl _ _))⟩
      · exact .inl ⟨.inr ⟨7, false, _, rfl, ⟨⟨7, .guard⟩, by simp, rfl, rfl⟩, rfl, rfl, by decide, rfl⟩, fun a' W hB hold he K hK => fx_bin .neq 3 3 (.tmp 108) (.const (.int .i64 0)) _ _ _ rfl (he ⟨10, .data⟩ (by simp) rfl) rfl (by kernel_rfl) (by kernel_rfl) (hK _ (Below.refl _ _))⟩
      · exact .inl ⟨.inl rfl, fun a' W hB hold he K hK => fx_pick (.tmp 105) (.const (.bool true)) (.tmp 109) false _ rfl (he ⟨7, .data⟩ (by simp) rfl) (he ⟨11, .data⟩ (by simp) rfl) (hK _ (Below.refl _ _))⟩
      · exact .inl ⟨.inl rfl, fun a' W hB hold he K hK => fx_move (.tmp 110) _ (.inl rfl) (he ⟨12, .data⟩ (by simp) rfl) (hK _ (Below.refl _ _))⟩
      · exact .inl ⟨.inr ⟨13, false, _, rfl, ⟨⟨13, .guard⟩, by simp, rfl, rfl⟩, rfl, rfl, by decide, rfl⟩, fun a' W hB hold he K hK => fx_field 46 (.tmp 11) 2 _ _ rfl ((hold 11 (by decide)).trans o11) (by kernel_rfl) (hK _ (Below.refl _ _))⟩
      · exact .inl ⟨.inr ⟨13, false, _, rfl, ⟨⟨13, .guard⟩, by simp, rfl, rfl⟩, rfl, rfl, by decide, rfl⟩, fun a' W hB hold he K hK => wp_step_load 3 (.tmp 112) _ rfl _ (he ⟨14, .data⟩ (by simp) rfl) (load_int W _ _ _ (cell_bel L2.out hB)) (hK _ (Below.refl _ _))⟩
      · exact .inl ⟨.inr ⟨13, false, _, rfl, ⟨⟨13, .guard⟩, by simp, rfl, rfl⟩, rfl, rfl, by decide, rfl⟩, fun a' W hB hold he K hK => fx_bin .lss 3 3 (.tmp 113) (.const (.int .i64 0)) _ _ _ rfl (he ⟨15, .data⟩ (by simp) rfl) rfl rfl (HLSS.out _) (hK _ (Below.refl _ _))⟩
      · exact .inl ⟨.inl rfl, fun a' W hB hold he K hK => fx_pick (.tmp 111) (.const (.bool true)) (.tmp 114) false _ rfl (he ⟨13, .data⟩ (by simp) rfl) (he ⟨16, .data⟩ (by simp) rfl) (hK _ (Below.refl _ _))⟩
      · exact .inl ⟨.inl rfl, fun a' W hB hold he K hK => fx_move (.tmp 115) _ (.inl rfl) (he ⟨17, .data⟩ (by simp) rfl) (hK _ (Below.refl _ _))⟩
      · exact .inl ⟨.inr ⟨18, false, _, rfl, ⟨⟨18, .guard⟩, by simp, rfl, rfl⟩, rfl, rfl, by decide, rfl⟩, fun a' W hB hold he K hK => fx_field 46 (.tmp 11) 2 _ _ rfl ((hold 11 (by decide)).trans o11) (by kernel_rfl) (hK _ (Below.refl _ _))⟩
      · exact .inl ⟨.inr ⟨18, false, _, rfl, ⟨⟨18, .guard⟩, by simp, rfl, rfl⟩, rfl, rfl, by decide, rfl⟩, fun a' W hB hold he K hK => wp_step_load 3 (.tmp 117) _ rfl _ (he ⟨19, .data⟩ (by simp) rfl) (load_int W _ _ _ (cell_bel L2.out hB)) (hK _ (Below.refl _ _))⟩
      · exact .inl ⟨.inr ⟨18, false, _, rfl, ⟨⟨18, .guard⟩, by simp, rfl, rfl⟩, rfl, rfl, by decide, rfl⟩, fun a' W hB hold he K hK => fx_field 46 (.tmp 11) 1 _ _ rfl ((hold 11 (by decide)).trans o11) (by kernel_rfl) (hK _ (Below.refl _ _))⟩
      · exact .inl ⟨.inr ⟨18, false, _, rfl, ⟨⟨18, .guard⟩, by simp, rfl, rfl⟩, rfl, rfl, by decide, rfl⟩, fun a' W hB hold he K hK => wp_step_load 5 (.tmp 119) _ rfl _ (he ⟨21, .data⟩ (by simp) rfl) (load_u8 W _ _ _ (cell_bel L1.out hB)) (hK _ (Below.refl _ _))⟩
      · exact .inl ⟨.inr ⟨18, false, _, rfl, ⟨⟨18, .guard⟩, by simp, rfl, rfl⟩, rfl, rfl, by decide, rfl⟩, fun a' W hB hold he K hK => (by have h0 : a'.eval (.tmp 120) = _ := (he ⟨22, .data⟩ (by simp) rfl); exact wp_step_call 21 #[_] (by simp only [execOp, h0]; simp [go_sem] <;> (simp [Act.eval] at h0; simp [h0])) ((HSB.out W).mono (by rintro e1 w' ⟨rfl, hb⟩; exact ⟨_, rfl, hK _ hb⟩)))⟩
      · exact .inl ⟨.inr ⟨18, false, _, rfl, ⟨⟨18, .guard⟩, by simp, rfl, rfl⟩, rfl, rfl, by decide, rfl⟩, fun a' W hB hold he K hK => fx_bin .add 3 3 (.tmp 118) (.tmp 121) _ _ _ rfl (he ⟨20, .data⟩ (by simp) rfl) (he ⟨23, .data⟩ (by simp) rfl) rfl (HADD.out _) (hK _ (Below.refl _ _))⟩
      · exact .inl ⟨.inr ⟨18, false, _, rfl, ⟨⟨18, .guard⟩, by simp, rfl, rfl⟩, rfl, rfl, by decide, rfl⟩, fun a' W hB hold he K hK => fx_field 44 (.tmp 7) 1 _ _ rfl ((hold 7 (by decide)).trans o7) (by kernel_rfl) (hK _ (Below.refl _ _))⟩
      · exact .inl ⟨.inr ⟨18, false, _, rfl, ⟨⟨18, .guard⟩, by simp, rfl, rfl⟩, rfl, rfl, by decide, rfl⟩, fun a' W hB hold he K hK => wp_step_load 3 (.tmp 123) _ rfl _ (he ⟨25, .data⟩ (by simp) rfl) (load_int W _ _ _ (cell_bel GC1.out hB)) (hK _ (Below.refl _ _))⟩
      · exact .inl ⟨.inr ⟨18, false, _, rfl, ⟨⟨18, .guard⟩, by simp, rfl, rfl⟩, rfl, rfl, by decide, rfl⟩, fun a' W hB hold he K hK => fx_bin .gtr 3 3 (.tmp 122) (.tmp 124) _ _ _ rfl (he ⟨24, .data⟩ (by simp) rfl) (he ⟨26, .data⟩ (by simp) rfl) rfl (HGTR.out _) (hK _ (Below.refl _ _))⟩
      · exact .inl ⟨.inl rfl, fun a' W hB hold he K hK => fx_pick (.tmp 116) (.const (.bool true)) (.tmp 125) false _ rfl (he ⟨18, .data⟩ (by simp) rfl) (he ⟨27, .data⟩ (by simp) rfl) (hK _ (Below.refl _ _))⟩
      · exact .inl ⟨.inl rfl, fun a' W hB hold he K hK => fx_move (.tmp 126) _ (.inl rfl) (he ⟨28, .data⟩ (by simp) rfl) (hK _ (Below.refl _ _))⟩
      · exact .inl ⟨.inr ⟨29, false, _, rfl, ⟨⟨29, .guard⟩, by simp, rfl, rfl⟩, rfl, rfl, by decide, rfl⟩, fun a' W hB hold he K hK => fx_field 46 (.tmp 11) 0 _ _ rfl ((hold 11 (by decide)).trans o11) (by kernel_rfl) (hK _ (Below.refl _ _))⟩
      · exact .inl ⟨.inr ⟨29, false, _, rfl, ⟨⟨29, .guard⟩, by simp, rfl, rfl⟩, rfl, rfl, by decide, rfl⟩, fun a' W hB hold he K hK => wp_step_load 9 (.tmp 128) _ rfl _ (he ⟨30, .data⟩ (by simp) rfl) (load_str W _ _ _ (cell_bel L0.out hB)) (hK _ (Below.refl _ _))⟩
      · exact .inl ⟨.inr ⟨29, false, _, rfl, ⟨⟨29, .guard⟩, by simp, rfl, rfl⟩, rfl, rfl, by decide, rfl⟩, fun a' W hB hold he K hK => (by have h0 : a'.eval (.tmp 129) = _ := (he ⟨31, .data⟩ (by simp) rfl); exact wp_step_call 23 #[_] (by simp only [execOp, h0]; simp [go_sem] <;> (simp [Act.eval] at h0; simp [h0])) ((HM2.out W).mono (by rintro e1 w' ⟨rfl, hb⟩; exact ⟨_, rfl, hK _ hb⟩)))⟩
      · exact .inl ⟨.inr ⟨29, false, _, rfl, ⟨⟨29, .guard⟩, by simp, rfl, rfl⟩, rfl, rfl, by decide, rfl⟩, fun a' W hB hold he K hK => fx_not 4 (.tmp 130) _ rfl (he ⟨32, .data⟩ (by simp) rfl) (hK _ (Below.refl _ _))⟩
  intro W hB5
  simp only [putAll, List.length_cons, List.length_nil, Nat.reduceAdd, List.drop_succ_cons, List.drop_zero]
  have HB7 := hide (bel_trans HB6.out hB5)
  have HH7 := hide (HH6.out.below hB5 HH6.out.lt)
  have HL7 := hide (HL6.out.below hB5 HL6.out.lt)
  clear hB5
  clear HNS HREM HLSS HADD HGTR HSB HM2 L0 L1 L2 GC1 HL6 HH6 HB6
  have HFD := hide HFK.out.kind
  have v3 : IntKind.i64.wrap ((k : Int) + 1) = (k : Int) + 1 := by rw [w64]; unfold wrap64; have := HT.out.few; have := HN.out; have := HKN.out; omega
  have l1 := HL7.out.cell 1
  simp at l1
  obtain ⟨kd, hkd⟩ : ∃ x, f.kd = x := ⟨_, rfl⟩
  rw [hkd] at l1
  have k1 := K1.out
  have k2 := K2.out
  have k4 := K4.out
  rw [hkd] at k1 k2 k4
  clear K1 K2 K4
  have a1 : (kd == 1) = false := beq_eq_false_iff_ne.2 k1
  have a2 : (kd == 2) = false := beq_eq_false_iff_ne.2 k2
  have a4 : (kd == 4) = false := beq_eq_false_iff_ne.2 k4
  have b1 : decide (kd = 1) = false := decide_eq_false k1
  have b2 : decide (kd = 2) = false := decide_eq_false k2
  have b4 : decide (kd = 4) = false := decide_eq_false k4
  have N1 := hide (fun W : World => show (binOp .neq 5 (.int .u8 kd) (.int .u8 1)).run Try.prog W = .ok (.bool true) W by simp [go_sem, a1, b1, k1])
  have N2 := hide (fun W : World => show (binOp .eql 5 (.int .u8 kd) (.int .u8 2)).run Try.prog W = .ok (.bool false) W by simp [go_sem, a2, b2, k2])
  have N4 := hide (fun W : World => show (binOp .eql 5 (.int .u8 kd) (.int .u8 4)).run Try.prog W = .ok (.bool false) W by simp [go_sem, a4, b4, k4])
  have L1 := hide l1
  clear hkd k1 k2 k4
  go_wp2_with fail
  refine wp_region_abs [11, 14] [146, 147, 148, 149, 150, 151, 152, 153, 154, 155, 156, 157, 158, 159, 160, 161, 162, 163, 164, 165, 166, 167, 168, 169, 170, 171, 172, 173, 174, 175, 176, 177, 178, 179, 180, 181, 182, 183, 184, 185, 186, 187, 188, 189, 190, 191]
    [.bool false, .bool false, undef, undef, undef, undef, undef, undef, undef, undef, undef, undef, undef, undef, undef, undef, undef, undef, undef, undef, undef, .bool false, .bool false, .pointer (some ⟨h, 1, none⟩), .int .u8 kd, .bool true, .bool true, .bool false, .bool false, .bool false, undef, undef, undef, undef, undef, undef, undef, undef, undef, undef, undef, undef, undef, undef, undef, .bool false] (by kernel_rfl) (by simp) rfl (by kernel_rfl) (by kernel_rfl) (by kernel_rfl) (by simp) (by decide) ?_ ?_
  · intro Q' a0 hT
    have o11 : a0.eval (.tmp 11) = .pointer (some ⟨h, 0, none⟩) := hT 11 (by simp)
    have o14 : a0.eval (.tmp 14) = .bool false := hT 14 (by simp)
    clear hT
    as_aux_lemma =>
      refine ⟨?_, ?_, ?_, ?_, ?_, ?_, ?_, ?_, ?_, ?_, ?_, ?_, ?_, ?_, ?_, ?_, ?_, ?_, ?_, ?_, ?_, ?_, ?_, ?_, ?_, ?_, ?_, ?_, ?_, ?_, ?_, ?_, ?_, ?_, ?_, ?_, ?_, ?_, ?_, ?_, ?_, ?_, ?_, ?_, ?_, ?_, trivial⟩
      · exact .inl ⟨.inl rfl, fun a' W hB hold he K hK => fx_move (.tmp 14) _ (.inl rfl) ((hold 14 (by decide)).trans o14) (hK _ (Below.refl _ _))⟩
      · exact .inl ⟨.inl rfl, fun a' W hB hold he K hK => fx_move (.tmp 146) _ (.inl rfl) (he ⟨0, .data⟩ (by simp) rfl) (hK _ (Below.refl _ _))⟩
      · exact .inr ⟨rfl, rfl, 1, true, _, rfl, ⟨⟨1, .guard⟩, by simp, rfl, rfl⟩, rfl, rfl, by decide, by intro h; cases h⟩
      · exact .inr ⟨rfl, rfl, 1, true, _, rfl, ⟨⟨1, .guard⟩, by simp, rfl, rfl⟩, rfl, rfl, by decide, by intro h; cases h⟩
      · exact .inr ⟨rfl, rfl, 1, true, _, rfl, ⟨⟨1, .guard⟩, by simp, rfl, rfl⟩, rfl, rfl, by decide, by intro h; cases h⟩
      · exact .inr ⟨rfl, rfl, 1, true, _, rfl, ⟨⟨1, .guard⟩, by simp, rfl, rfl⟩, rfl, rfl, by decide, by intro h; cases h⟩
      · exact .inr ⟨rfl, rfl, 5, false, _, rfl, ⟨⟨5, .guard⟩, by simp, rfl, rfl⟩, rfl, rfl, by decide, by intro h; cases h⟩
      · exact .inr ⟨rfl, rfl, 5, false, _, rfl, ⟨⟨5, .guard⟩, by simp, rfl, rfl⟩, rfl, rfl, by decide, by intro h; cases h⟩
      · exact .inr ⟨rfl, rfl, 5, false, _, rfl, ⟨⟨5, .guard⟩, by simp, rfl, rfl⟩, rfl, rfl, by decide, by intro h; cases h⟩
      · exact .inr ⟨rfl, rfl, 5, false, _, rfl, ⟨⟨5, .guard⟩, by simp, rfl, rfl⟩, rfl, rfl, by decide, by intro h; cases h⟩
      · exact .inr ⟨rfl, rfl, 5, false, _, rfl, ⟨⟨5, .guard⟩, by simp, rfl, rfl⟩, rfl, rfl, by decide, by intro h; cases h⟩
      · exact .inr ⟨rfl, rfl, 1, true, _, rfl, ⟨⟨1, .guard⟩, by simp, rfl, rfl⟩, rfl, rfl, by decide, by intro h; cases h⟩
      · exact .inr ⟨rfl, rfl, 1, true, _, rfl, ⟨⟨1, .guard⟩, by simp, rfl, rfl⟩, rfl, rfl, by decide, by intro h; cases h⟩
      · exact .inr ⟨rfl, rfl, 12, false, _, rfl, ⟨⟨12, .guard⟩, by simp, rfl, rfl⟩, rfl, rfl, by decide, by intro h; cases h⟩
      · exact .inr ⟨rfl, rfl, 12, false, _, rfl, ⟨⟨12, .guard⟩, by simp, rfl, rfl⟩, rfl, rfl, by decide, by intro h; cases h⟩
      · exact .inr ⟨rfl, rfl, 12, false, _, rfl, ⟨⟨12, .guard⟩, by simp, rfl, rfl⟩, rfl, rfl, by decide, by intro h; cases h⟩
      · exact .inr ⟨rfl, rfl, 12, false, _, rfl, ⟨⟨12, .guard⟩, by simp, rfl, rfl⟩, rfl, rfl, by decide, by intro h; cases h⟩
      · exact .inr ⟨rfl, rfl, 12, false, _, rfl, ⟨⟨12, .guard⟩, by simp, rfl, rfl⟩, rfl, rfl, by decide, by intro h; cases h⟩
      · exact .inr ⟨rfl, rfl, 12, false, _, rfl, ⟨⟨12, .guard⟩, by simp, rfl, rfl⟩, rfl, rfl, by decide, by intro h; cases h⟩
      · exact .inr ⟨rfl, rfl, 12, false, _, rfl, ⟨⟨12, .guard⟩, by simp, rfl, rfl⟩, rfl, rfl, by decide, by intro h; cases h⟩
      · exact .inr ⟨rfl, rfl, 1, true, _, rfl, ⟨⟨1, .guard⟩, by simp, rfl, rfl⟩, rfl, rfl, by decide, by intro h; cases h⟩
      · exact .inl ⟨.inl rfl, fun a' W hB hold he K hK => fx_pick (.tmp 147) (.tmp 166) (.const (.bool false)) false _ rfl (he ⟨1, .data⟩ (by simp) rfl) rfl (hK _ (Below.refl _ _))⟩
      · exact .inl ⟨.inl rfl, fun a' W hB hold he K hK => fx_move (.tmp 167) _ (.inl rfl) (he ⟨21, .data⟩ (by simp) rfl) (hK _ (Below.refl _ _))⟩
      · exact .inl ⟨.inr ⟨22, false, _, rfl, ⟨⟨22, .guard⟩, by simp, rfl, rfl⟩, rfl, rfl, by decide, rfl⟩, fun a' W hB hold he K hK => fx_field 46 (.tmp 11) 1 _ _ rfl ((hold 11 (by decide)).trans o11) (by kernel_rfl) (hK _ (Below.refl _ _))⟩
      · exact .inl ⟨.inr ⟨22, false, _, rfl, ⟨⟨22, .guard⟩, by simp, rfl, rfl⟩, rfl, rfl, by decide, rfl⟩, fun a' W hB hold he K hK => wp_step_load 5 (.tmp 169) _ rfl _ (he ⟨23, .data⟩ (by simp) rfl) (load_u8 W _ _ _ (cell_bel L1.out hB)) (hK _ (Below.refl _ _))⟩
      · exact .inl ⟨.inr ⟨22, false, _, rfl, ⟨⟨22, .guard⟩, by simp, rfl, rfl⟩, rfl, rfl, by decide, rfl⟩, fun a' W hB hold he K hK => fx_bin .neq 5 5 (.tmp 170) (.const (.int .u8 1)) _ _ _ rfl (he ⟨24, .data⟩ (by simp) rfl) rfl rfl (N1.out _) (hK _ (Below.refl _ _))⟩
      · exact .inl ⟨.inr ⟨22, false, _, rfl, ⟨⟨22, .guard⟩, by simp, rfl, rfl⟩, rfl, rfl, by decide, rfl⟩, fun a' W hB hold he K hK => fx_move (.tmp 171) _ (.inl rfl) (he ⟨25, .data⟩ (by simp) rfl) (hK _ (Below.refl _ _))⟩
      · exact .inl ⟨.inr ⟨26, true, _, rfl, ⟨⟨26, .guard⟩, by simp, rfl, rfl⟩, rfl, rfl, by decide, rfl⟩, fun a' W hB hold he K hK => fx_move (.tmp 14) _ (.inl rfl) ((hold 14 (by decide)).trans o14) (hK _ (Below.refl _ _))⟩
      · exact .inl ⟨.inr ⟨22, false, _, rfl, ⟨⟨22, .guard⟩, by simp, rfl, rfl⟩, rfl, rfl, by decide, rfl⟩, fun a' W hB hold he K hK => fx_pick (.tmp 172) (.tmp 173) (.const (.bool false)) true _ rfl (he ⟨26, .data⟩ (by simp) rfl) (he ⟨27, .data⟩ (by simp) rfl) (hK _ (Below.refl _ _))⟩
      · exact .inl ⟨.inr ⟨22, false, _, rfl, ⟨⟨22, .guard⟩, by simp, rfl, rfl⟩, rfl, rfl, by decide, rfl⟩, fun a' W hB hold he K hK => fx_move (.tmp 174) _ (.inl rfl) (he ⟨28, .data⟩ (by simp) rfl) (hK _ (Below.refl _ _))⟩
      · exact .inr ⟨rfl, rfl, 29, true, _, rfl, ⟨⟨29, .guard⟩, by simp, rfl, rfl⟩, rfl, rfl, by decide, by intro h; cases h⟩
      · exact .inr ⟨rfl, rfl, 29, true, _, rfl, ⟨⟨29, .guard⟩, by simp, rfl, rfl⟩, rfl, rfl, by decide, by intro h; cases h⟩
      · exact .inr ⟨rfl, rfl, 29, true, _, rfl, ⟨⟨29, .guard⟩, by simp, rfl, rfl⟩, rfl, rfl, by decide, by intro h; cases h⟩
      · exact .inr ⟨rfl, rfl, 29, true, _, rfl, ⟨⟨29, .guard⟩, by simp, rfl, rfl⟩, rfl, rfl, by decide, by intro h; cases h⟩
      · exact .inr ⟨rfl, rfl, 33, false, _, rfl, ⟨⟨33, .guard⟩, by simp, rfl, rfl⟩, rfl, rfl, by decide, by intro h; cases h⟩
      · exact .inr ⟨rfl, rfl, 33, false, _, rfl, ⟨⟨33, .guard⟩, by simp, rfl, rfl⟩, rfl, rfl, by decide, by intro h; cases h⟩
      · exact .inr ⟨rfl, rfl, 33, false, _, rfl, ⟨⟨33, .guard⟩, by simp, rfl, rfl⟩, rfl, rfl, by decide, by intro h; cases h⟩
      · exact .inr ⟨rfl, rfl, 33, false, _, rfl, ⟨⟨33, .guard⟩, by simp, rfl, rfl⟩, rfl, rfl, by decide, by intro h; cases h⟩
      · exact .inr ⟨rfl, rfl, 33, false, _, rfl, ⟨⟨33, .guard⟩, by simp, rfl, rfl⟩, rfl, rfl, by decide, by intro h; cases h⟩
      · exact .inr ⟨rfl, rfl, 33, false, _, rfl, ⟨⟨33, .guard⟩, by simp, rfl, rfl⟩, rfl, rfl, by decide, by intro h; cases h⟩
      · exact .inr ⟨rfl, rfl, 33, false, _, rfl, ⟨⟨33, .guard⟩, by simp, rfl, rfl⟩, rfl, rfl, by decide, by intro h; cases h⟩
      · exact .inr ⟨rfl, rfl, 33, false, _, rfl, ⟨⟨33, .guard⟩, by simp, rfl, rfl⟩, rfl, rfl, by decide, by intro h; cases h⟩
      · exact .inr ⟨rfl, rfl, 33, false, _, rfl, ⟨⟨33, .guard⟩, by simp, rfl, rfl⟩, rfl, rfl, by decide, by intro h; cases h⟩
      · exact .inr ⟨rfl, rfl, 33, false, _, rfl, ⟨⟨33, .guard⟩, by simp, rfl, rfl⟩, rfl, rfl, by decide, by intro h; cases h⟩
      · exact .inr ⟨rfl, rfl, 29, true, _, rfl, ⟨⟨29, .guard⟩, by simp, rfl, rfl⟩, rfl, rfl, by decide, by intro h; cases h⟩
      · exact .inl ⟨.inr ⟨22, false, _, rfl, ⟨⟨22, .guard⟩, by simp, rfl, rfl⟩, rfl, rfl, by decide, rfl⟩, fun a' W hB hold he K hK => fx_pick (.tmp 175) (.tmp 190) (.const (.bool false)) false _ rfl (he ⟨29, .data⟩ (by simp) rfl) rfl (hK _ (Below.refl _ _))⟩
  intro W8 hB8
  simp only [putAll, List.length_cons, List.length_nil, Nat.reduceAdd, List.drop_succ_cons, List.drop_zero]
  have HB8 := hide (bel_trans HB7.out hB8)
  have HH8 := hide (HH7.out.below hB8 HH7.out.lt)
  replace L1 := hide (cell_bel L1.out hB8)
  clear hB8 l1
  go_wp2_with fail
  refine wp_region_abs [11] [193, 194, 195, 196, 197, 198, 199, 200, 201, 202, 203, 204, 205, 206, 207, 208, 209, 210, 211, 212, 213, 214, 215, 216, 217, 218, 219, 220, 221, 222, 223, 224, 225, 226, 227]
    [.pointer (some ⟨h, 1, none⟩), .int .u8 kd, .bool false, .bool false, undef, undef, undef, undef, undef, undef, undef, undef, undef, undef, undef, undef, .bool false, .bool false, .pointer (some ⟨h, 1, none⟩), .int .u8 kd, .bool false, .bool false, undef, undef, undef, undef, undef, undef, undef, undef, undef, undef, undef, undef, .bool false] (by kernel_rfl) (by simp) rfl (by kernel_rfl) (by kernel_rfl) (by kernel_rfl) (by simp) (by decide) ?_ ?_
  · intro Q' a0 hT
    have o11 : a0.eval (.tmp 11) = .pointer (some ⟨h, 0, none⟩) := hT 11 (by simp)
    clear hT
    as_aux_lemma =>
      refine ⟨?_, ?_, ?_, ?_, ?_, ?_, ?_, ?_, ?_, ?_, ?_, ?_, ?_, ?_, ?_, ?_, ?_, ?_, ?_, ?_, ?_, ?_, ?_, ?_, ?_, ?_, ?_, ?_, ?_, ?_, ?_, ?_, ?_, ?_, ?_, trivial⟩
      · exact .inl ⟨.inl rfl, fun a' W hB hold he K hK => fx_field 46 (.tmp 11) 1 _ _ rfl ((hold 11 (by decide)).trans o11) (by kernel_rfl) (hK _ (Below.refl _ _))⟩
      · exact .inl ⟨.inl rfl, fun a' W hB hold he K hK => wp_step_load 5 (.tmp 193) _ rfl _ (he ⟨0, .data⟩ (by simp) rfl) (load_u8 W _ _ _ (cell_bel L1.out hB)) (hK _ (Below.refl _ _))⟩
      · exact .inl ⟨.inl rfl, fun a' W hB hold he K hK => fx_bin .eql 5 5 (.tmp 194) (.const (.int .u8 2)) _ _ _ rfl (he ⟨1, .data⟩ (by simp) rfl) rfl rfl (N2.out _) (hK _ (Below.refl _ _))⟩
      · exact .inl ⟨.inl rfl, fun a' W hB hold he K hK => fx_move (.tmp 195) _ (.inl rfl) (he ⟨2, .data⟩ (by simp) rfl) (hK _ (Below.refl _ _))⟩
      · exact .inr ⟨rfl, rfl, 3, true, _, rfl, ⟨⟨3, .guard⟩, by simp, rfl, rfl⟩, rfl, rfl, by decide, by intro h; cases h⟩
      · exact .inr ⟨rfl, rfl, 3, true, _, rfl, ⟨⟨3, .guard⟩, by simp, rfl, rfl⟩, rfl, rfl, by decide, by intro h; cases h⟩
      · exact .inr ⟨rfl, rfl, 3, true, _, rfl, ⟨⟨3, .guard⟩, by simp, rfl, rfl⟩, rfl, rfl, by decide, by intro h; cases h⟩
      · exact .inr ⟨rfl, rfl, 3, true, _, rfl, ⟨⟨3, .guard⟩, by simp, rfl, rfl⟩, rfl, rfl, by decide, by intro h; cases h⟩
      · exact .inr ⟨rfl, rfl, 3, true, _, rfl, ⟨⟨3, .guard⟩, by simp, rfl, rfl⟩, rfl, rfl, by decide, by intro h; cases h⟩
      · exact .inr ⟨rfl, rfl, 3, true, _, rfl, ⟨⟨3, .guard⟩, by simp, rfl, rfl⟩, rfl, rfl, by decide, by intro h; cases h⟩
      · exact .inr ⟨rfl, rfl, 3, true, _, rfl, ⟨⟨3, .guard⟩, by simp, rfl, rfl⟩, rfl, rfl, by decide, by intro h; cases h⟩
      · exact .inr ⟨rfl, rfl, 3, true, _, rfl, ⟨⟨3, .guard⟩, by simp, rfl, rfl⟩, rfl, rfl, by decide, by intro h; cases h⟩
      · exact .inr ⟨rfl, rfl, 3, true, _, rfl, ⟨⟨3, .guard⟩, by simp, rfl, rfl⟩, rfl, rfl, by decide, by intro h; cases h⟩
      · exact .inr ⟨rfl, rfl, 3, true, _, rfl, ⟨⟨3, .guard⟩, by simp, rfl, rfl⟩, rfl, rfl, by decide, by intro h; cases h⟩
      · exact .inr ⟨rfl, rfl, 3, true, _, rfl, ⟨⟨3, .guard⟩, by simp, rfl, rfl⟩, rfl, rfl, by decide, by intro h; cases h⟩
      · exact .inr ⟨rfl, rfl, 3, true, _, rfl, ⟨⟨3, .guard⟩, by simp, rfl, rfl⟩, rfl, rfl, by decide, by intro h; cases h⟩
      · exact .inl ⟨.inl rfl, fun a' W hB hold he K hK => fx_pick (.tmp 196) (.tmp 208) (.const (.bool false)) false _ rfl (he ⟨3, .data⟩ (by simp) rfl) rfl (hK _ (Below.refl _ _))⟩
      · exact .inl ⟨.inl rfl, fun a' W hB hold he K hK => fx_move (.tmp 209) _ (.inl rfl) (he ⟨16, .data⟩ (by simp) rfl) (hK _ (Below.refl _ _))⟩
      · exact .inl ⟨.inr ⟨17, false, _, rfl, ⟨⟨17, .guard⟩, by simp, rfl, rfl⟩, rfl, rfl, by decide, rfl⟩, fun a' W hB hold he K hK => fx_field 46 (.tmp 11) 1 _ _ rfl ((hold 11 (by decide)).trans o11) (by kernel_rfl) (hK _ (Below.refl _ _))⟩
      · exact .inl ⟨.inr ⟨17, false, _, rfl, ⟨⟨17, .guard⟩, by simp, rfl, rfl⟩, rfl, rfl, by decide, rfl⟩, fun a' W hB hold he K hK => wp_step_load 5 (.tmp 211) _ rfl _ (he ⟨18, .data⟩ (by simp) rfl) (load_u8 W _ _ _ (cell_bel L1.out hB)) (hK _ (Below.refl _ _))⟩
      · exact .inl ⟨.inr ⟨17, false, _, rfl, ⟨⟨17, .guard⟩, by simp, rfl, rfl⟩, rfl, rfl, by decide, rfl⟩, fun a' W hB hold he K hK => fx_bin .eql 5 5 (.tmp 212) (.const (.int .u8 4)) _ _ _ rfl (he ⟨19, .data⟩ (by simp) rfl) rfl rfl (N4.out _) (hK _ (Below.refl _ _))⟩
      · exact .inl ⟨.inr ⟨17, false, _, rfl, ⟨⟨17, .guard⟩, by simp, rfl, rfl⟩, rfl, rfl, by decide, rfl⟩, fun a' W hB hold he K hK => fx_move (.tmp 213) _ (.inl rfl) (he ⟨20, .data⟩ (by simp) rfl) (hK _ (Below.refl _ _))⟩
      · exact .inr ⟨rfl, rfl, 21, true, _, rfl, ⟨⟨21, .guard⟩, by simp, rfl, rfl⟩, rfl, rfl, by decide, by intro h; cases h⟩
      · exact .inr ⟨rfl, rfl, 21, true, _, rfl, ⟨⟨21, .guard⟩, by simp, rfl, rfl⟩, rfl, rfl, by decide, by intro h; cases h⟩
      · exact .inr ⟨rfl, rfl, 21, true, _, rfl, ⟨⟨21, .guard⟩, by simp, rfl, rfl⟩, rfl, rfl, by decide, by intro h; cases h⟩
      · exact .inr ⟨rfl, rfl, 21, true, _, rfl, ⟨⟨21, .guard⟩, by simp, rfl, rfl⟩, rfl, rfl, by decide, by intro h; cases h⟩
      · exact .inr ⟨rfl, rfl, 21, true, _, rfl, ⟨⟨21, .guard⟩, by simp, rfl, rfl⟩, rfl, rfl, by decide, by intro h; cases h⟩
      · exact .inr ⟨rfl, rfl, 21, true, _, rfl, ⟨⟨21, .guard⟩, by simp, rfl, rfl⟩, rfl, rfl, by decide, by intro h; cases h⟩
      · exact .inr ⟨rfl, rfl, 21, true, _, rfl, ⟨⟨21, .guard⟩, by simp, rfl, rfl⟩, rfl, rfl, by decide, by intro h; cases h⟩
      · exact .inr ⟨rfl, rfl, 21, true, _, rfl, ⟨⟨21, .guard⟩, by simp, rfl, rfl⟩, rfl, rfl, by decide, by intro h; cases h⟩
      · exact .inr ⟨rfl, rfl, 21, true, _, rfl, ⟨⟨21, .guard⟩, by simp, rfl, rfl⟩, rfl, rfl, by decide, by intro h; cases h⟩
      · exact .inr ⟨rfl, rfl, 21, true, _, rfl, ⟨⟨21, .guard⟩, by simp, rfl, rfl⟩, rfl, rfl, by decide, by intro h; cases h⟩
      · exact .inr ⟨rfl, rfl, 21, true, _, rfl, ⟨⟨21, .guard⟩, by simp, rfl, rfl⟩, rfl, rfl, by decide, by intro h; cases h⟩
      · exact .inr ⟨rfl, rfl, 21, true, _, rfl, ⟨⟨21, .guard⟩, by simp, rfl, rfl⟩, rfl, rfl, by decide, by intro h; cases h⟩
      · exact .inl ⟨.inr ⟨17, false, _, rfl, ⟨⟨17, .guard⟩, by simp, rfl, rfl⟩, rfl, rfl, by decide, rfl⟩, fun a' W hB hold he K hK => fx_pick (.tmp 214) (.tmp 226) (.const (.bool false)) false _ rfl (he ⟨21, .data⟩ (by simp) rfl) rfl (hK _ (Below.refl _ _))⟩
  intro W9 hB9
  simp only [putAll, List.length_cons, List.length_nil, Nat.reduceAdd, List.drop_succ_cons, List.drop_zero]
  have HB9 := hide (bel_trans HB8.out hB9)
  have HH9 := hide (HH8.out.below hB9 HH8.out.lt)
  clear hB9
  go_wp2_with fail
  refine ⟨?_, by have := HKN.out; simp [sndMu, intOf]; omega⟩
  unfold SndWI
  refine ⟨_, _, _, _, _, _, _, _, _, _, _, _, _, _, _, _, _, _, _, _, _, _, _, _, _, _, _, _, _, _, _, _, _, _, _, _, _, _, _, _, _, _, _, _, _, _, _, _, _, _, _, _, _, _, _, _, _, _, _, _, _, _, _, _, _, _, _, _, _, _, _, _, _, _, _, _, _, _, _, _, _, _, _, _, _, _, _, _, _, _, _, _, _, _, _, _, _, _, _, _, _, _, _, _, _, _, _, _, _, _, _, _, _, _, _, _, _, _, _, _, _, _, _, _, _, _, _, _, _, _, _, _, _, _, _, _, _, _, _, _, _, _, _, _, _, _, _, _, _, _, _, _, _, _, _, _, ?_, rfl⟩
  exact ⟨k + 1, by have := HKN.out; omega, by rw [show (((k + 1 : Nat)) : Int) = (k : Int) + 1 by omega], HH9.out, HB9.out⟩
end Go.Proofs.Ytkflofjcjolehaa

/-! Types: Sound's inner loop. -/
namespace Go.Proofs.Ytkflofjcjolehaa
open Go.RowKit Go.Proofs.YtkflofjcjolehaaW.PrintWords
set_option maxHeartbeats 40000000
set_option maxRecDepth 1000000
set_option linter.unusedSimpArgs false
set_option linter.unusedVariables false

theorem snd_end (s1 s3 s4 s5 s6 s8 s9 s15 s16 s17 s18 s19 s20 s21 s22 s23 s24 s25 s26 s27 s28 s29 s30 s31 s32 s33 s34 s35 s36 s37 s38 s39 s40 s41 s42 s43 s44 s45 s46 s47 s48 s49 s50 s51 s52 s53 s54 s55 s56 s57 s58 s59 s60 s61 s62 s63 s64 s65 s66 s67 s68 s69 s70 s71 s72 s73 s74 s75 s76 s77 s78 s229 s230 s231 s232 s233 s234 s235 s236 s237 s238 s239 s240 s241 s242 s243 s244 s245 s246 s247 s248 s249 s250 s251 s252 s253 s254 s255 s256 s257 s258 s259 s260 s261 s262 s263 s264 : Value) (s2 s11 s12 s13 s14 s79 s80 s81 s82 s83 s84 s85 s86 s87 s88 s89 s90 s91 s92 s93 s94 s95 s96 s97 s98 s99 s100 s101 s102 s103 s104 s105 s106 s107 s108 s109 s110 s111 s112 s113 s114 s115 s116 s117 s118 s119 s120 s121 s122 s123 s124 s125 s126 s127 s128 s129 s130 s131 s132 s133 s134 s135 s136 s137 s138 s139 s140 s141 s142 s143 s144 s145 s146 s147 s148 s149 s150 s151 s152 s153 s154 s155 s156 s157 s158 s159 s160 s161 s162 s163 s164 s165 s166 s167 s168 s169 s170 s171 s172 s173 s174 s175 s176 s177 s178 s179 s180 s181 s182 s183 s184 s185 s186 s187 s188 s189 s190 s191 s192 s193 s194 s195 s196 s197 s198 s199 s200 s201 s202 s203 s204 s205 s206 s207 s208 s209 s210 s211 s212 s213 s214 s215 s216 s217 s218 s219 s220 s221 s222 s223 s224 s225 s226 s227 s228 : Value) (w : World) (cb off n c : Nat) (l : List Tp) (i : Nat) (t : Tp) (A2 : Option Addr) (N c2 g : Nat) (wr : World) (X : SndIn w l cb off n c i t A2 N c2) (hH : Has wr g 44 #[.string t.nm, .int .i64 t.sz, .slice A2 N c2]) (hB : Below w.heap.size w wr) (QX : Exit → Act → World → Prop)
    (hexit : ∀ (s2 s11 s12 s13 s14 s79 s80 s81 s82 s83 s84 s85 s86 s87 s88 s89 s90 s91 s92 s93 s94 s95 s96 s97 s98 s99 s100 s101 s102 s103 s104 s105 s106 s107 s108 s109 s110 s111 s112 s113 s114 s115 s116 s117 s118 s119 s120 s121 s122 s123 s124 s125 s126 s127 s128 s129 s130 s131 s132 s133 s134 s135 s136 s137 s138 s139 s140 s141 s142 s143 s144 s145 s146 s147 s148 s149 s150 s151 s152 s153 s154 s155 s156 s157 s158 s159 s160 s161 s162 s163 s164 s165 s166 s167 s168 s169 s170 s171 s172 s173 s174 s175 s176 s177 s178 s179 s180 s181 s182 s183 s184 s185 s186 s187 s188 s189 s190 s191 s192 s193 s194 s195 s196 s197 s198 s199 s200 s201 s202 s203 s204 s205 s206 s207 s208 s209 s210 s211 s212 s213 s214 s215 s216 s217 s218 s219 s220 s221 s222 s223 s224 s225 s226 s227 s228 : Value) (w' : World), Has w' g 44 #[.string t.nm, .int .i64 t.sz, .slice A2 N c2] → Below w.heap.size w w' → QX (.exit 2) ⟨#[.slice (some ⟨cb, off, none⟩) n c, s1, s2, s3, s4, s5, s6, .pointer (some ⟨g, 0, none⟩), s8, s9, .int .i64 (N : Int), s11, s12, s13, s14, s15, s16, s17, s18, s19, s20, s21, s22, s23, s24, s25, s26, s27, s28, s29, s30, s31, s32, s33, s34, s35, s36, s37, s38, s39, s40, s41, s42, s43, s44, s45, s46, s47, s48, s49, s50, s51, s52, s53, s54, s55, s56, s57, s58, s59, s60, s61, s62, s63, s64, s65, s66, s67, s68, s69, s70, s71, s72, s73, s74, s75, s76, s77, s78, s79, s80, s81, s82, s83, s84, s85, s86, s87, s88, s89, s90, s91, s92, s93, s94, s95, s96, s97, s98, s99, s100, s101, s102, s103, s104, s105, s106, s107, s108, s109, s110, s111, s112, s113, s114, s115, s116, s117, s118, s119, s120, s121, s122, s123, s124, s125, s126, s127, s128, s129, s130, s131, s132, s133, s134, s135, s136, s137, s138, s139, s140, s141, s142, s143, s144, s145, s146, s147, s148, s149, s150, s151, s152, s153, s154, s155, s156, s157, s158, s159, s160, s161, s162, s163, s164, s165, s166, s167, s168, s169, s170, s171, s172, s173, s174, s175, s176, s177, s178, s179, s180, s181, s182, s183, s184, s185, s186, s187, s188, s189, s190, s191, s192, s193, s194, s195, s196, s197, s198, s199, s200, s201, s202, s203, s204, s205, s206, s207, s208, s209, s210, s211, s212, s213, s214, s215, s216, s217, s218, s219, s220, s221, s222, s223, s224, s225, s226, s227, s228, s229, s230, s231, s232, s233, s234, s235, s236, s237, s238, s239, s240, s241, s242, s243, s244, s245, s246, s247, s248, s249, s250, s251, s252, s253, s254, s255, s256, s257, s258, s259, s260, s261, s262, s263, s264], []⟩ w') (K : Act → World → Prop) :
    Code.wp Try.prog sndInner (Exit.then K QX) ⟨#[.slice (some ⟨cb, off, none⟩) n c, s1, s2, s3, s4, s5, s6, .pointer (some ⟨g, 0, none⟩), s8, s9, .int .i64 (N : Int), s11, s12, s13, s14, s15, s16, s17, s18, s19, s20, s21, s22, s23, s24, s25, s26, s27, s28, s29, s30, s31, s32, s33, s34, s35, s36, s37, s38, s39, s40, s41, s42, s43, s44, s45, s46, s47, s48, s49, s50, s51, s52, s53, s54, s55, s56, s57, s58, s59, s60, s61, s62, s63, s64, s65, s66, s67, s68, s69, s70, s71, s72, s73, s74, s75, s76, s77, s78, s79, s80, s81, s82, s83, s84, s85, s86, s87, s88, s89, s90, s91, s92, s93, s94, s95, s96, s97, s98, s99, s100, s101, s102, s103, s104, s105, s106, s107, s108, s109, s110, s111, s112, s113, s114, s115, s116, s117, s118, s119, s120, s121, s122, s123, s124, s125, s126, s127, s128, s129, s130, s131, s132, s133, s134, s135, s136, s137, s138, s139, s140, s141, s142, s143, s144, s145, s146, s147, s148, s149, s150, s151, s152, s153, s154, s155, s156, s157, s158, s159, s160, s161, s162, s163, s164, s165, s166, s167, s168, s169, s170, s171, s172, s173, s174, s175, s176, s177, s178, s179, s180, s181, s182, s183, s184, s185, s186, s187, s188, s189, s190, s191, s192, s193, s194, s195, s196, s197, s198, s199, s200, s201, s202, s203, s204, s205, s206, s207, s208, s209, s210, s211, s212, s213, s214, s215, s216, s217, s218, s219, s220, s221, s222, s223, s224, s225, s226, s227, s228, s229, s230, s231, s232, s233, s234, s235, s236, s237, s238, s239, s240, s241, s242, s243, s244, s245, s246, s247, s248, s249, s250, s251, s252, s253, s254, s255, s256, s257, s258, s259, s260, s261, s262, s263, s264], []⟩ wr := by
  have HX := hide hexit
  clear hexit
  have HH := hide hH
  have HB := hide hB
  clear hB
  have g0 := hH.cell 0
  have g1 := hH.cell 1
  have g2 := hH.cell 2
  simp at g0 g1 g2
  clear hH X
  conv => arg 2; whnf
  go_wp2_with fail
  exact HX.out _ _ _ _ _ _ _ _ _ _ _ _ _ _ _ _ _ _ _ _ _ _ _ _ _ _ _ _ _ _ _ _ _ _ _ _ _ _ _ _ _ _ _ _ _ _ _ _ _ _ _ _ _ _ _ _ _ _ _ _ _ _ _ _ _ _ _ _ _ _ _ _ _ _ _ _ _ _ _ _ _ _ _ _ _ _ _ _ _ _ _ _ _ _ _ _ _ _ _ _ _ _ _ _ _ _ _ _ _ _ _ _ _ _ _ _ _ _ _ _ _ _ _ _ _ _ _ _ _ _ _ _ _ _ _ _ _ _ _ _ _ _ _ _ _ _ _ _ _ _ _ _ _ _ _ wr HH.out HB.out

theorem snd_round (s1 s3 s4 s5 s6 s8 s9 s15 s16 s17 s18 s19 s20 s21 s22 s23 s24 s25 s26 s27 s28 s29 s30 s31 s32 s33 s34 s35 s36 s37 s38 s39 s40 s41 s42 s43 s44 s45 s46 s47 s48 s49 s50 s51 s52 s53 s54 s55 s56 s57 s58 s59 s60 s61 s62 s63 s64 s65 s66 s67 s68 s69 s70 s71 s72 s73 s74 s75 s76 s77 s78 s229 s230 s231 s232 s233 s234 s235 s236 s237 s238 s239 s240 s241 s242 s243 s244 s245 s246 s247 s248 s249 s250 s251 s252 s253 s254 s255 s256 s257 s258 s259 s260 s261 s262 s263 s264 : Value) (w : World) (cb off n c : Nat) (l : List Tp) (i : Nat) (t : Tp) (A2 : Option Addr) (N c2 g : Nat) (X : SndIn w l cb off n c i t A2 N c2) (QX : Exit → Act → World → Prop)
    (hexit : ∀ (s2 s11 s12 s13 s14 s79 s80 s81 s82 s83 s84 s85 s86 s87 s88 s89 s90 s91 s92 s93 s94 s95 s96 s97 s98 s99 s100 s101 s102 s103 s104 s105 s106 s107 s108 s109 s110 s111 s112 s113 s114 s115 s116 s117 s118 s119 s120 s121 s122 s123 s124 s125 s126 s127 s128 s129 s130 s131 s132 s133 s134 s135 s136 s137 s138 s139 s140 s141 s142 s143 s144 s145 s146 s147 s148 s149 s150 s151 s152 s153 s154 s155 s156 s157 s158 s159 s160 s161 s162 s163 s164 s165 s166 s167 s168 s169 s170 s171 s172 s173 s174 s175 s176 s177 s178 s179 s180 s181 s182 s183 s184 s185 s186 s187 s188 s189 s190 s191 s192 s193 s194 s195 s196 s197 s198 s199 s200 s201 s202 s203 s204 s205 s206 s207 s208 s209 s210 s211 s212 s213 s214 s215 s216 s217 s218 s219 s220 s221 s222 s223 s224 s225 s226 s227 s228 : Value) (w' : World), Has w' g 44 #[.string t.nm, .int .i64 t.sz, .slice A2 N c2] → Below w.heap.size w w' → QX (.exit 2) ⟨#[.slice (some ⟨cb, off, none⟩) n c, s1, s2, s3, s4, s5, s6, .pointer (some ⟨g, 0, none⟩), s8, s9, .int .i64 (N : Int), s11, s12, s13, s14, s15, s16, s17, s18, s19, s20, s21, s22, s23, s24, s25, s26, s27, s28, s29, s30, s31, s32, s33, s34, s35, s36, s37, s38, s39, s40, s41, s42, s43, s44, s45, s46, s47, s48, s49, s50, s51, s52, s53, s54, s55, s56, s57, s58, s59, s60, s61, s62, s63, s64, s65, s66, s67, s68, s69, s70, s71, s72, s73, s74, s75, s76, s77, s78, s79, s80, s81, s82, s83, s84, s85, s86, s87, s88, s89, s90, s91, s92, s93, s94, s95, s96, s97, s98, s99, s100, s101, s102, s103, s104, s105, s106, s107, s108, s109, s110, s111, s112, s113, s114, s115, s116, s117, s118, s119, s120, s121, s122, s123, s124, s125, s126, s127, s128, s129, s130, s131, s132, s133, s134, s135, s136, s137, s138, s139, s140, s141, s142, s143, s144, s145, s146, s147, s148, s149, s150, s151, s152, s153, s154, s155, s156, s157, s158, s159, s160, s161, s162, s163, s164, s165, s166, s167, s168, s169, s170, s171, s172, s173, s174, s175, s176, s177, s178, s179, s180, s181, s182, s183, s184, s185, s186, s187, s188, s189, s190, s191, s192, s193, s194, s195, s196, s197, s198, s199, s200, s201, s202, s203, s204, s205, s206, s207, s208, s209, s210, s211, s212, s213, s214, s215, s216, s217, s218, s219, s220, s221, s222, s223, s224, s225, s226, s227, s228, s229, s230, s231, s232, s233, s234, s235, s236, s237, s238, s239, s240, s241, s242, s243, s244, s245, s246, s247, s248, s249, s250, s251, s252, s253, s254, s255, s256, s257, s258, s259, s260, s261, s262, s263, s264], []⟩ w')
    (a : Act) (wr : World) (hI : SndWI s1 s3 s4 s5 s6 s8 s9 s15 s16 s17 s18 s19 s20 s21 s22 s23 s24 s25 s26 s27 s28 s29 s30 s31 s32 s33 s34 s35 s36 s37 s38 s39 s40 s41 s42 s43 s44 s45 s46 s47 s48 s49 s50 s51 s52 s53 s54 s55 s56 s57 s58 s59 s60 s61 s62 s63 s64 s65 s66 s67 s68 s69 s70 s71 s72 s73 s74 s75 s76 s77 s78 s229 s230 s231 s232 s233 s234 s235 s236 s237 s238 s239 s240 s241 s242 s243 s244 s245 s246 s247 s248 s249 s250 s251 s252 s253 s254 s255 s256 s257 s258 s259 s260 s261 s262 s263 s264 w cb off n c g t.nm t.sz A2 N c2 a wr) :
    Code.wp Try.prog sndInner (Exit.then (fun a' w'' => SndWI s1 s3 s4 s5 s6 s8 s9 s15 s16 s17 s18 s19 s20 s21 s22 s23 s24 s25 s26 s27 s28 s29 s30 s31 s32 s33 s34 s35 s36 s37 s38 s39 s40 s41 s42 s43 s44 s45 s46 s47 s48 s49 s50 s51 s52 s53 s54 s55 s56 s57 s58 s59 s60 s61 s62 s63 s64 s65 s66 s67 s68 s69 s70 s71 s72 s73 s74 s75 s76 s77 s78 s229 s230 s231 s232 s233 s234 s235 s236 s237 s238 s239 s240 s241 s242 s243 s244 s245 s246 s247 s248 s249 s250 s251 s252 s253 s254 s255 s256 s257 s258 s259 s260 s261 s262 s263 s264 w cb off n c g t.nm t.sz A2 N c2 a' w'' ∧ sndMu N a' w'' < sndMu N a wr) QX) a wr := by
  unfold SndWI at hI
  obtain ⟨s2, hI⟩ := hI
  obtain ⟨s10, hI⟩ := hI
  obtain ⟨s11, hI⟩ := hI
  obtain ⟨s12, hI⟩ := hI
  obtain ⟨s13, hI⟩ := hI
  obtain ⟨s14, hI⟩ := hI
  obtain ⟨s79, hI⟩ := hI
  obtain ⟨s80, hI⟩ := hI
  obtain ⟨s81, hI⟩ := hI
  obtain ⟨s82, hI⟩ := hI
  obtain ⟨s83, hI⟩ := hI
  obtain ⟨s84, hI⟩ := hI
  obtain ⟨s85, hI⟩ := hI
  obtain ⟨s86, hI⟩ := hI
  obtain ⟨s87, hI⟩ := hI
  obtain ⟨s88, hI⟩ := hI
  obtain ⟨s89, hI⟩ := hI
  obtain ⟨s90, hI⟩ := hI
  obtain ⟨s91, hI⟩ := hI
  obtain ⟨s92, hI⟩ := hI
  obtain ⟨s93, hI⟩ := hI
  obtain ⟨s94, hI⟩ := hI
  obtain ⟨s95, hI⟩ := hI
  obtain ⟨s96, hI⟩ := hI
  obtain ⟨s97, hI⟩ := hI
  obtain ⟨s98, hI⟩ := hI
  obtain ⟨s99, hI⟩ := hI
  obtain ⟨s100, hI⟩ := hI
  obtain ⟨s101, hI⟩ := hI
  obtain ⟨s102, hI⟩ := hI
  obtain ⟨s103, hI⟩ := hI
  obtain ⟨s104, hI⟩ := hI
  obtain ⟨s105, hI⟩ := hI
  obtain ⟨s106, hI⟩ := hI
  obtain ⟨s107, hI⟩ := hI
  obtain ⟨s108, hI⟩ := hI
  obtain ⟨s109, hI⟩ := hI
  obtain ⟨s110, hI⟩ := hI
  obtain ⟨s111, hI⟩ := hI
  obtain ⟨s112, hI⟩ := hI
  obtain ⟨s113, hI⟩ := hI
  obtain ⟨s114, hI⟩ := hI
  obtain ⟨s115, hI⟩ := hI
  obtain ⟨s116, hI⟩ := hI
  obtain ⟨s117, hI⟩ := hI
  obtain ⟨s118, hI⟩ := hI
  obtain ⟨s119, hI⟩ := hI
  obtain ⟨s120, hI⟩ := hI
  obtain ⟨s121, hI⟩ := hI
  obtain ⟨s122, hI⟩ := hI
  obtain ⟨s123, hI⟩ := hI
  obtain ⟨s124, hI⟩ := hI
  obtain ⟨s125, hI⟩ := hI
  obtain ⟨s126, hI⟩ := hI
  obtain ⟨s127, hI⟩ := hI
  obtain ⟨s128, hI⟩ := hI
  obtain ⟨s129, hI⟩ := hI
  obtain ⟨s130, hI⟩ := hI
  obtain ⟨s131, hI⟩ := hI
  obtain ⟨s132, hI⟩ := hI
  obtain ⟨s133, hI⟩ := hI
  obtain ⟨s134, hI⟩ := hI
  obtain ⟨s135, hI⟩ := hI
  obtain ⟨s136, hI⟩ := hI
  obtain ⟨s137, hI⟩ := hI
  obtain ⟨s138, hI⟩ := hI
  obtain ⟨s139, hI⟩ := hI
  obtain ⟨s140, hI⟩ := hI
  obtain ⟨s141, hI⟩ := hI
  obtain ⟨s142, hI⟩ := hI
  obtain ⟨s143, hI⟩ := hI
  obtain ⟨s144, hI⟩ := hI
  obtain ⟨s145, hI⟩ := hI
  obtain ⟨s146, hI⟩ := hI
  obtain ⟨s147, hI⟩ := hI
  obtain ⟨s148, hI⟩ := hI
  obtain ⟨s149, hI⟩ := hI
  obtain ⟨s150, hI⟩ := hI
  obtain ⟨s151, hI⟩ := hI
  obtain ⟨s152, hI⟩ := hI
  obtain ⟨s153, hI⟩ := hI
  obtain ⟨s154, hI⟩ := hI
  obtain ⟨s155, hI⟩ := hI
  obtain ⟨s156, hI⟩ := hI
  obtain ⟨s157, hI⟩ := hI
  obtain ⟨s158, hI⟩ := hI
  obtain ⟨s159, hI⟩ := hI
  obtain ⟨s160, hI⟩ := hI
  obtain ⟨s161, hI⟩ := hI
  obtain ⟨s162, hI⟩ := hI
  obtain ⟨s163, hI⟩ := hI
  obtain ⟨s164, hI⟩ := hI
  obtain ⟨s165, hI⟩ := hI
  obtain ⟨s166, hI⟩ := hI
  obtain ⟨s167, hI⟩ := hI
  obtain ⟨s168, hI⟩ := hI
  obtain ⟨s169, hI⟩ := hI
  obtain ⟨s170, hI⟩ := hI
  obtain ⟨s171, hI⟩ := hI
  obtain ⟨s172, hI⟩ := hI
  obtain ⟨s173, hI⟩ := hI
  obtain ⟨s174, hI⟩ := hI
  obtain ⟨s175, hI⟩ := hI
  obtain ⟨s176, hI⟩ := hI
  obtain ⟨s177, hI⟩ := hI
  obtain ⟨s178, hI⟩ := hI
  obtain ⟨s179, hI⟩ := hI
  obtain ⟨s180, hI⟩ := hI
  obtain ⟨s181, hI⟩ := hI
  obtain ⟨s182, hI⟩ := hI
  obtain ⟨s183, hI⟩ := hI
  obtain ⟨s184, hI⟩ := hI
  obtain ⟨s185, hI⟩ := hI
  obtain ⟨s186, hI⟩ := hI
  obtain ⟨s187, hI⟩ := hI
  obtain ⟨s188, hI⟩ := hI
  obtain ⟨s189, hI⟩ := hI
  obtain ⟨s190, hI⟩ := hI
  obtain ⟨s191, hI⟩ := hI
  obtain ⟨s192, hI⟩ := hI
  obtain ⟨s193, hI⟩ := hI
  obtain ⟨s194, hI⟩ := hI
  obtain ⟨s195, hI⟩ := hI
  obtain ⟨s196, hI⟩ := hI
  obtain ⟨s197, hI⟩ := hI
  obtain ⟨s198, hI⟩ := hI
  obtain ⟨s199, hI⟩ := hI
  obtain ⟨s200, hI⟩ := hI
  obtain ⟨s201, hI⟩ := hI
  obtain ⟨s202, hI⟩ := hI
  obtain ⟨s203, hI⟩ := hI
  obtain ⟨s204, hI⟩ := hI
  obtain ⟨s205, hI⟩ := hI
  obtain ⟨s206, hI⟩ := hI
  obtain ⟨s207, hI⟩ := hI
  obtain ⟨s208, hI⟩ := hI
  obtain ⟨s209, hI⟩ := hI
  obtain ⟨s210, hI⟩ := hI
  obtain ⟨s211, hI⟩ := hI
  obtain ⟨s212, hI⟩ := hI
  obtain ⟨s213, hI⟩ := hI
  obtain ⟨s214, hI⟩ := hI
  obtain ⟨s215, hI⟩ := hI
  obtain ⟨s216, hI⟩ := hI
  obtain ⟨s217, hI⟩ := hI
  obtain ⟨s218, hI⟩ := hI
  obtain ⟨s219, hI⟩ := hI
  obtain ⟨s220, hI⟩ := hI
  obtain ⟨s221, hI⟩ := hI
  obtain ⟨s222, hI⟩ := hI
  obtain ⟨s223, hI⟩ := hI
  obtain ⟨s224, hI⟩ := hI
  obtain ⟨s225, hI⟩ := hI
  obtain ⟨s226, hI⟩ := hI
  obtain ⟨s227, hI⟩ := hI
  obtain ⟨s228, hI⟩ := hI
  obtain ⟨⟨k, hk, h10, hH, hB⟩, ha⟩ := hI
  subst h10
  subst ha
  rcases Nat.lt_or_ge k N with hkN | hkN
  · obtain ⟨f, hf⟩ : ∃ f, t.fs[k]? = some f := ⟨_, List.getElem?_eq_getElem (by rw [X.num]; exact hkN)⟩
    rcases Decidable.em (f.kd = 1) with k1 | k1
    · exact snd_way1 s1 s3 s4 s5 s6 s8 s9 s15 s16 s17 s18 s19 s20 s21 s22 s23 s24 s25 s26 s27 s28 s29 s30 s31 s32 s33 s34 s35 s36 s37 s38 s39 s40 s41 s42 s43 s44 s45 s46 s47 s48 s49 s50 s51 s52 s53 s54 s55 s56 s57 s58 s59 s60 s61 s62 s63 s64 s65 s66 s67 s68 s69 s70 s71 s72 s73 s74 s75 s76 s77 s78 s229 s230 s231 s232 s233 s234 s235 s236 s237 s238 s239 s240 s241 s242 s243 s244 s245 s246 s247 s248 s249 s250 s251 s252 s253 s254 s255 s256 s257 s258 s259 s260 s261 s262 s263 s264 s2 s11 s12 s13 s14 s79 s80 s81 s82 s83 s84 s85 s86 s87 s88 s89 s90 s91 s92 s93 s94 s95 s96 s97 s98 s99 s100 s101 s102 s103 s104 s105 s106 s107 s108 s109 s110 s111 s112 s113 s114 s115 s116 s117 s118 s119 s120 s121 s122 s123 s124 s125 s126 s127 s128 s129 s130 s131 s132 s133 s134 s135 s136 s137 s138 s139 s140 s141 s142 s143 s144 s145 s146 s147 s148 s149 s150 s151 s152 s153 s154 s155 s156 s157 s158 s159 s160 s161 s162 s163 s164 s165 s166 s167 s168 s169 s170 s171 s172 s173 s174 s175 s176 s177 s178 s179 s180 s181 s182 s183 s184 s185 s186 s187 s188 s189 s190 s191 s192 s193 s194 s195 s196 s197 s198 s199 s200 s201 s202 s203 s204 s205 s206 s207 s208 s209 s210 s211 s212 s213 s214 s215 s216 s217 s218 s219 s220 s221 s222 s223 s224 s225 s226 s227 s228 w cb off n c l i t A2 N c2 g wr X k hkN hH hB f hf k1 QX
    rcases Decidable.em (f.kd = 2) with k2 | k2
    · exact snd_way2 s1 s3 s4 s5 s6 s8 s9 s15 s16 s17 s18 s19 s20 s21 s22 s23 s24 s25 s26 s27 s28 s29 s30 s31 s32 s33 s34 s35 s36 s37 s38 s39 s40 s41 s42 s43 s44 s45 s46 s47 s48 s49 s50 s51 s52 s53 s54 s55 s56 s57 s58 s59 s60 s61 s62 s63 s64 s65 s66 s67 s68 s69 s70 s71 s72 s73 s74 s75 s76 s77 s78 s229 s230 s231 s232 s233 s234 s235 s236 s237 s238 s239 s240 s241 s242 s243 s244 s245 s246 s247 s248 s249 s250 s251 s252 s253 s254 s255 s256 s257 s258 s259 s260 s261 s262 s263 s264 s2 s11 s12 s13 s14 s79 s80 s81 s82 s83 s84 s85 s86 s87 s88 s89 s90 s91 s92 s93 s94 s95 s96 s97 s98 s99 s100 s101 s102 s103 s104 s105 s106 s107 s108 s109 s110 s111 s112 s113 s114 s115 s116 s117 s118 s119 s120 s121 s122 s123 s124 s125 s126 s127 s128 s129 s130 s131 s132 s133 s134 s135 s136 s137 s138 s139 s140 s141 s142 s143 s144 s145 s146 s147 s148 s149 s150 s151 s152 s153 s154 s155 s156 s157 s158 s159 s160 s161 s162 s163 s164 s165 s166 s167 s168 s169 s170 s171 s172 s173 s174 s175 s176 s177 s178 s179 s180 s181 s182 s183 s184 s185 s186 s187 s188 s189 s190 s191 s192 s193 s194 s195 s196 s197 s198 s199 s200 s201 s202 s203 s204 s205 s206 s207 s208 s209 s210 s211 s212 s213 s214 s215 s216 s217 s218 s219 s220 s221 s222 s223 s224 s225 s226 s227 s228 w cb off n c l i t A2 N c2 g wr X k hkN hH hB f hf k2 QX
    rcases Decidable.em (f.kd = 4) with k4 | k4
    · exact snd_way4 s1 s3 s4 s5 s6 s8 s9 s15 s16 s17 s18 s19 s20 s21 s22 s23 s24 s25 s26 s27 s28 s29 s30 s31 s32 s33 s34 s35 s36 s37 s38 s39 s40 s41 s42 s43 s44 s45 s46 s47 s48 s49 s50 s51 s52 s53 s54 s55 s56 s57 s58 s59 s60 s61 s62 s63 s64 s65 s66 s67 s68 s69 s70 s71 s72 s73 s74 s75 s76 s77 s78 s229 s230 s231 s232 s233 s234 s235 s236 s237 s238 s239 s240 s241 s242 s243 s244 s245 s246 s247 s248 s249 s250 s251 s252 s253 s254 s255 s256 s257 s258 s259 s260 s261 s262 s263 s264 s2 s11 s12 s13 s14 s79 s80 s81 s82 s83 s84 s85 s86 s87 s88 s89 s90 s91 s92 s93 s94 s95 s96 s97 s98 s99 s100 s101 s102 s103 s104 s105 s106 s107 s108 s109 s110 s111 s112 s113 s114 s115 s116 s117 s118 s119 s120 s121 s122 s123 s124 s125 s126 s127 s128 s129 s130 s131 s132 s133 s134 s135 s136 s137 s138 s139 s140 s141 s142 s143 s144 s145 s146 s147 s148 s149 s150 s151 s152 s153 s154 s155 s156 s157 s158 s159 s160 s161 s162 s163 s164 s165 s166 s167 s168 s169 s170 s171 s172 s173 s174 s175 s176 s177 s178 s179 s180 s181 s182 s183 s184 s185 s186 s187 s188 s189 s190 s191 s192 s193 s194 s195 s196 s197 s198 s199 s200 s201 s202 s203 s204 s205 s206 s207 s208 s209 s210 s211 s212 s213 s214 s215 s216 s217 s218 s219 s220 s221 s222 s223 s224 s225 s226 s227 s228 w cb off n c l i t A2 N c2 g wr X k hkN hH hB f hf k4 QX
    exact snd_wayE s1 s3 s4 s5 s6 s8 s9 s15 s16 s17 s18 s19 s20 s21 s22 s23 s24 s25 s26 s27 s28 s29 s30 s31 s32 s33 s34 s35 s36 s37 s38 s39 s40 s41 s42 s43 s44 s45 s46 s47 s48 s49 s50 s51 s52 s53 s54 s55 s56 s57 s58 s59 s60 s61 s62 s63 s64 s65 s66 s67 s68 s69 s70 s71 s72 s73 s74 s75 s76 s77 s78 s229 s230 s231 s232 s233 s234 s235 s236 s237 s238 s239 s240 s241 s242 s243 s244 s245 s246 s247 s248 s249 s250 s251 s252 s253 s254 s255 s256 s257 s258 s259 s260 s261 s262 s263 s264 s2 s11 s12 s13 s14 s79 s80 s81 s82 s83 s84 s85 s86 s87 s88 s89 s90 s91 s92 s93 s94 s95 s96 s97 s98 s99 s100 s101 s102 s103 s104 s105 s106 s107 s108 s109 s110 s111 s112 s113 s114 s115 s116 s117 s118 s119 s120 s121 s122 s123 s124 s125 s126 s127 s128 s129 s130 s131 s132 s133 s134 s135 s136 s137 s138 s139 s140 s141 s142 s143 s144 s145 s146 s147 s148 s149 s150 s151 s152 s153 s154 s155 s156 s157 s158 s159 s160 s161 s162 s163 s164 s165 s166 s167 s168 s169 s170 s171 s172 s173 s174 s175 s176 s177 s178 s179 s180 s181 s182 s183 s184 s185 s186 s187 s188 s189 s190 s191 s192 s193 s194 s195 s196 s197 s198 s199 s200 s201 s202 s203 s204 s205 s206 s207 s208 s209 s210 s211 s212 s213 s214 s215 s216 s217 s218 s219 s220 s221 s222 s223 s224 s225 s226 s227 s228 w cb off n c l i t A2 N c2 g wr X k hkN hH hB f hf k1 k2 k4 QX
  · have e : k = N := Nat.le_antisymm hk hkN
    subst e
    exact snd_end s1 s3 s4 s5 s6 s8 s9 s15 s16 s17 s18 s19 s20 s21 s22 s23 s24 s25 s26 s27 s28 s29 s30 s31 s32 s33 s34 s35 s36 s37 s38 s39 s40 s41 s42 s43 s44 s45 s46 s47 s48 s49 s50 s51 s52 s53 s54 s55 s56 s57 s58 s59 s60 s61 s62 s63 s64 s65 s66 s67 s68 s69 s70 s71 s72 s73 s74 s75 s76 s77 s78 s229 s230 s231 s232 s233 s234 s235 s236 s237 s238 s239 s240 s241 s242 s243 s244 s245 s246 s247 s248 s249 s250 s251 s252 s253 s254 s255 s256 s257 s258 s259 s260 s261 s262 s263 s264 s2 s11 s12 s13 s14 s79 s80 s81 s82 s83 s84 s85 s86 s87 s88 s89 s90 s91 s92 s93 s94 s95 s96 s97 s98 s99 s100 s101 s102 s103 s104 s105 s106 s107 s108 s109 s110 s111 s112 s113 s114 s115 s116 s117 s118 s119 s120 s121 s122 s123 s124 s125 s126 s127 s128 s129 s130 s131 s132 s133 s134 s135 s136 s137 s138 s139 s140 s141 s142 s143 s144 s145 s146 s147 s148 s149 s150 s151 s152 s153 s154 s155 s156 s157 s158 s159 s160 s161 s162 s163 s164 s165 s166 s167 s168 s169 s170 s171 s172 s173 s174 s175 s176 s177 s178 s179 s180 s181 s182 s183 s184 s185 s186 s187 s188 s189 s190 s191 s192 s193 s194 s195 s196 s197 s198 s199 s200 s201 s202 s203 s204 s205 s206 s207 s208 s209 s210 s211 s212 s213 s214 s215 s216 s217 s218 s219 s220 s221 s222 s223 s224 s225 s226 s227 s228 w cb off n c l i t A2 k c2 g wr X hH hB QX hexit _

theorem snd_loop (s1 s3 s4 s5 s6 s8 s9 s15 s16 s17 s18 s19 s20 s21 s22 s23 s24 s25 s26 s27 s28 s29 s30 s31 s32 s33 s34 s35 s36 s37 s38 s39 s40 s41 s42 s43 s44 s45 s46 s47 s48 s49 s50 s51 s52 s53 s54 s55 s56 s57 s58 s59 s60 s61 s62 s63 s64 s65 s66 s67 s68 s69 s70 s71 s72 s73 s74 s75 s76 s77 s78 s229 s230 s231 s232 s233 s234 s235 s236 s237 s238 s239 s240 s241 s242 s243 s244 s245 s246 s247 s248 s249 s250 s251 s252 s253 s254 s255 s256 s257 s258 s259 s260 s261 s262 s263 s264 : Value) (s2 s11 s12 s13 s14 s79 s80 s81 s82 s83 s84 s85 s86 s87 s88 s89 s90 s91 s92 s93 s94 s95 s96 s97 s98 s99 s100 s101 s102 s103 s104 s105 s106 s107 s108 s109 s110 s111 s112 s113 s114 s115 s116 s117 s118 s119 s120 s121 s122 s123 s124 s125 s126 s127 s128 s129 s130 s131 s132 s133 s134 s135 s136 s137 s138 s139 s140 s141 s142 s143 s144 s145 s146 s147 s148 s149 s150 s151 s152 s153 s154 s155 s156 s157 s158 s159 s160 s161 s162 s163 s164 s165 s166 s167 s168 s169 s170 s171 s172 s173 s174 s175 s176 s177 s178 s179 s180 s181 s182 s183 s184 s185 s186 s187 s188 s189 s190 s191 s192 s193 s194 s195 s196 s197 s198 s199 s200 s201 s202 s203 s204 s205 s206 s207 s208 s209 s210 s211 s212 s213 s214 s215 s216 s217 s218 s219 s220 s221 s222 s223 s224 s225 s226 s227 s228 : Value) (w : World) (cb off n c : Nat) (l : List Tp) (i : Nat) (t : Tp) (A2 : Option Addr) (N c2 g : Nat) (wr : World) (X : SndIn w l cb off n c i t A2 N c2) (hH : Has wr g 44 #[.string t.nm, .int .i64 t.sz, .slice A2 N c2]) (hB : Below w.heap.size w wr) (QX : Exit → Act → World → Prop)
    (hexit : ∀ (s2 s11 s12 s13 s14 s79 s80 s81 s82 s83 s84 s85 s86 s87 s88 s89 s90 s91 s92 s93 s94 s95 s96 s97 s98 s99 s100 s101 s102 s103 s104 s105 s106 s107 s108 s109 s110 s111 s112 s113 s114 s115 s116 s117 s118 s119 s120 s121 s122 s123 s124 s125 s126 s127 s128 s129 s130 s131 s132 s133 s134 s135 s136 s137 s138 s139 s140 s141 s142 s143 s144 s145 s146 s147 s148 s149 s150 s151 s152 s153 s154 s155 s156 s157 s158 s159 s160 s161 s162 s163 s164 s165 s166 s167 s168 s169 s170 s171 s172 s173 s174 s175 s176 s177 s178 s179 s180 s181 s182 s183 s184 s185 s186 s187 s188 s189 s190 s191 s192 s193 s194 s195 s196 s197 s198 s199 s200 s201 s202 s203 s204 s205 s206 s207 s208 s209 s210 s211 s212 s213 s214 s215 s216 s217 s218 s219 s220 s221 s222 s223 s224 s225 s226 s227 s228 : Value) (w' : World), Has w' g 44 #[.string t.nm, .int .i64 t.sz, .slice A2 N c2] → Below w.heap.size w w' → QX (.exit 2) ⟨#[.slice (some ⟨cb, off, none⟩) n c, s1, s2, s3, s4, s5, s6, .pointer (some ⟨g, 0, none⟩), s8, s9, .int .i64 (N : Int), s11, s12, s13, s14, s15, s16, s17, s18, s19, s20, s21, s22, s23, s24, s25, s26, s27, s28, s29, s30, s31, s32, s33, s34, s35, s36, s37, s38, s39, s40, s41, s42, s43, s44, s45, s46, s47, s48, s49, s50, s51, s52, s53, s54, s55, s56, s57, s58, s59, s60, s61, s62, s63, s64, s65, s66, s67, s68, s69, s70, s71, s72, s73, s74, s75, s76, s77, s78, s79, s80, s81, s82, s83, s84, s85, s86, s87, s88, s89, s90, s91, s92, s93, s94, s95, s96, s97, s98, s99, s100, s101, s102, s103, s104, s105, s106, s107, s108, s109, s110, s111, s112, s113, s114, s115, s116, s117, s118, s119, s120, s121, s122, s123, s124, s125, s126, s127, s128, s129, s130, s131, s132, s133, s134, s135, s136, s137, s138, s139, s140, s141, s142, s143, s144, s145, s146, s147, s148, s149, s150, s151, s152, s153, s154, s155, s156, s157, s158, s159, s160, s161, s162, s163, s164, s165, s166, s167, s168, s169, s170, s171, s172, s173, s174, s175, s176, s177, s178, s179, s180, s181, s182, s183, s184, s185, s186, s187, s188, s189, s190, s191, s192, s193, s194, s195, s196, s197, s198, s199, s200, s201, s202, s203, s204, s205, s206, s207, s208, s209, s210, s211, s212, s213, s214, s215, s216, s217, s218, s219, s220, s221, s222, s223, s224, s225, s226, s227, s228, s229, s230, s231, s232, s233, s234, s235, s236, s237, s238, s239, s240, s241, s242, s243, s244, s245, s246, s247, s248, s249, s250, s251, s252, s253, s254, s255, s256, s257, s258, s259, s260, s261, s262, s263, s264], []⟩ w') :
    Code.wp Try.prog (Code.loop sndInner) QX ⟨#[.slice (some ⟨cb, off, none⟩) n c, s1, s2, s3, s4, s5, s6, .pointer (some ⟨g, 0, none⟩), s8, s9, .int .i64 0, s11, s12, s13, s14, s15, s16, s17, s18, s19, s20, s21, s22, s23, s24, s25, s26, s27, s28, s29, s30, s31, s32, s33, s34, s35, s36, s37, s38, s39, s40, s41, s42, s43, s44, s45, s46, s47, s48, s49, s50, s51, s52, s53, s54, s55, s56, s57, s58, s59, s60, s61, s62, s63, s64, s65, s66, s67, s68, s69, s70, s71, s72, s73, s74, s75, s76, s77, s78, s79, s80, s81, s82, s83, s84, s85, s86, s87, s88, s89, s90, s91, s92, s93, s94, s95, s96, s97, s98, s99, s100, s101, s102, s103, s104, s105, s106, s107, s108, s109, s110, s111, s112, s113, s114, s115, s116, s117, s118, s119, s120, s121, s122, s123, s124, s125, s126, s127, s128, s129, s130, s131, s132, s133, s134, s135, s136, s137, s138, s139, s140, s141, s142, s143, s144, s145, s146, s147, s148, s149, s150, s151, s152, s153, s154, s155, s156, s157, s158, s159, s160, s161, s162, s163, s164, s165, s166, s167, s168, s169, s170, s171, s172, s173, s174, s175, s176, s177, s178, s179, s180, s181, s182, s183, s184, s185, s186, s187, s188, s189, s190, s191, s192, s193, s194, s195, s196, s197, s198, s199, s200, s201, s202, s203, s204, s205, s206, s207, s208, s209, s210, s211, s212, s213, s214, s215, s216, s217, s218, s219, s220, s221, s222, s223, s224, s225, s226, s227, s228, s229, s230, s231, s232, s233, s234, s235, s236, s237, s238, s239, s240, s241, s242, s243, s244, s245, s246, s247, s248, s249, s250, s251, s252, s253, s254, s255, s256, s257, s258, s259, s260, s261, s262, s263, s264], []⟩ wr := by
  refine wp_loop (SndWI s1 s3 s4 s5 s6 s8 s9 s15 s16 s17 s18 s19 s20 s21 s22 s23 s24 s25 s26 s27 s28 s29 s30 s31 s32 s33 s34 s35 s36 s37 s38 s39 s40 s41 s42 s43 s44 s45 s46 s47 s48 s49 s50 s51 s52 s53 s54 s55 s56 s57 s58 s59 s60 s61 s62 s63 s64 s65 s66 s67 s68 s69 s70 s71 s72 s73 s74 s75 s76 s77 s78 s229 s230 s231 s232 s233 s234 s235 s236 s237 s238 s239 s240 s241 s242 s243 s244 s245 s246 s247 s248 s249 s250 s251 s252 s253 s254 s255 s256 s257 s258 s259 s260 s261 s262 s263 s264 w cb off n c g t.nm t.sz A2 N c2) (sndMu N) ?_ (fun a w'' hI => snd_round s1 s3 s4 s5 s6 s8 s9 s15 s16 s17 s18 s19 s20 s21 s22 s23 s24 s25 s26 s27 s28 s29 s30 s31 s32 s33 s34 s35 s36 s37 s38 s39 s40 s41 s42 s43 s44 s45 s46 s47 s48 s49 s50 s51 s52 s53 s54 s55 s56 s57 s58 s59 s60 s61 s62 s63 s64 s65 s66 s67 s68 s69 s70 s71 s72 s73 s74 s75 s76 s77 s78 s229 s230 s231 s232 s233 s234 s235 s236 s237 s238 s239 s240 s241 s242 s243 s244 s245 s246 s247 s248 s249 s250 s251 s252 s253 s254 s255 s256 s257 s258 s259 s260 s261 s262 s263 s264 w cb off n c l i t A2 N c2 g X QX hexit a w'' hI)
  unfold SndWI
  exact ⟨s2, .int .i64 0, s11, s12, s13, s14, s79, s80, s81, s82, s83, s84, s85, s86, s87, s88, s89, s90, s91, s92, s93, s94, s95, s96, s97, s98, s99, s100, s101, s102, s103, s104, s105, s106, s107, s108, s109, s110, s111, s112, s113, s114, s115, s116, s117, s118, s119, s120, s121, s122, s123, s124, s125, s126, s127, s128, s129, s130, s131, s132, s133, s134, s135, s136, s137, s138, s139, s140, s141, s142, s143, s144, s145, s146, s147, s148, s149, s150, s151, s152, s153, s154, s155, s156, s157, s158, s159, s160, s161, s162, s163, s164, s165, s166, s167, s168, s169, s170, s171, s172, s173, s174, s175, s176, s177, s178, s179, s180, s181, s182, s183, s184, s185, s186, s187, s188, s189, s190, s191, s192, s193, s194, s195, s196, s197, s198, s199, s200, s201, s202, s203, s204, s205, s206, s207, s208, s209, s210, s211, s212, s213, s214, s215, s216, s217, s218, s219, s220, s221, s222, s223, s224, s225, s226, s227, s228, ⟨0, Nat.zero_le _, rfl, hH, hB⟩, rfl⟩
end Go.Proofs.Ytkflofjcjolehaa

/-! Types: covers. -/
namespace Go.Proofs.Ytkflofjcjolehaa
open Go.RowKit Go.Proofs.YtkflofjcjolehaaW.PrintWords
set_option maxHeartbeats 40000000
set_option maxRecDepth 100000
set_option linter.unusedSimpArgs false
set_option linter.unusedVariables false

theorem ld_i64 (W : World) (b o : Nat) (x : Int) (h : W.cell? ⟨b, o, none⟩ = some (.int .i64 x)) : (Instr.loadAt 3 (.pointer (some ⟨b, o, none⟩))).run Try.prog W = .ok (.int .i64 x) W := by go_simp
theorem ld_b8 (W : World) (b o : Nat) (x : Int) (h : W.cell? ⟨b, o, none⟩ = some (.int .u8 x)) : (Instr.loadAt 5 (.pointer (some ⟨b, o, none⟩))).run Try.prog W = .ok (.int .u8 x) W := by go_simp

theorem ty_covers (w : World) (nm : ByteArray) (sz : Int) (A : Option Addr) (c : Nat) (fs : List Fl) (n : Nat) (hl : fs.length = n) (hC : kF.C w A n fs) (l : List Tp) (i0 : Nat) (hT : TpOk l i0 ⟨nm, sz, fs⟩) :
    Calls Try.prog 24 #[.agg #[.string nm, .int .i64 sz, .slice A n c]] w fun e w' => e = .returned (.bool true) ∧ Below w.heap.size w w' := by
  obtain ⟨z8, z128⟩ : 8 ≤ sz ∧ sz ≤ 128 := hT.size
  have d1 : decide (sz < 0) = false := decide_eq_false (by omega)
  have d2 : decide (sz > 128) = false := decide_eq_false (by omega)
  have w1 : IntKind.i64.wrap (sz + 1) = sz + 1 := by rw [w64]; unfold wrap64; omega
  have hN8 : n ≤ 8 := by rw [← hl]; exact hT.few
  have HT := hide hT
  have HN := hide hl
  have HF := hide hC
  have HZ := hide (show 8 ≤ sz ∧ sz ≤ 128 from ⟨z8, z128⟩)
  have HN8 := hide hN8
  have HP := hide (fun W (hW : Below w.heap.size w W) x m => ty_plain W nm sz A c fs n hl (Kd.C_below hC hW) x m)
  obtain ⟨g, hg⟩ : ∃ g, w.heap.size = g := ⟨_, rfl⟩
  have HG0 : Hid (Has (w.alloc (.cells #[.string nm, .int .i64 sz, .slice A n c] 44)) g 44 #[.string nm, .int .i64 sz, .slice A n c]) := hide (by rw [← hg]; exact Has.new _ _ _)
  have HG1 := hide (below_box w (.cells #[.string nm, .int .i64 sz, .slice A n c] 44))
  have g0 := HG0.out.cell 0
  have g1 := HG0.out.cell 1
  have g2 := HG0.out.cell 2
  simp at g0 g1 g2
  clear hT hl hC z8 z128 hN8
  go_enter Try.func24, Try.ntmps24
  go_wp2_with fail
  have HGE := hide hg
  clear hg g0 g1 g2
  go_loopw [3] (fun x wr => ∃ j : Nat, (j : Int) ≤ sz ∧ x = .int .i64 j ∧ Has wr g 44 #[.string nm, .int .i64 sz, .slice A n c] ∧ Below w.heap.size w wr) (fun x _ => sz.toNat - (intOf x).toNat)
  case atStart => exact ⟨0, by have := HZ.out; omega, rfl, HG0.out, HG1.out⟩
  case round =>
    clear HG0 HG1
    obtain ⟨j, hj, rfl, hH, hB⟩ := hrel
    have HH := hide hH
    have HB := hide hB
    have HJ := hide hj
    clear hB
    have g0 := hH.cell 0
    have g1 := hH.cell 1
    have g2 := hH.cell 2
    simp at g0 g1 g2
    clear hH hj
    by_cases hjs : (j : Int) < sz
    · have HJS := hide hjs
      go_wp2_with fail
      go_loopw [4, 5] (fun v x wr => ∃ k : Nat, k ≤ n ∧ x = .int .i64 k ∧ v = .int .i64 ((fs.take k).countP (hitF j) : Nat) ∧ Has wr g 44 #[.string nm, .int .i64 sz, .slice A n c] ∧ Below w.heap.size w wr) (fun _ x _ => n - (intOf x).toNat)
      case atStart => exact ⟨0, Nat.zero_le _, rfl, rfl, HH.out, HB.out⟩
      case round =>
        clear HB HH g0 g1 g2
        obtain ⟨k, hk, rfl, rfl, hH, hB⟩ := hrel
        have HH := hide hH
        have HB := hide hB
        clear hB
        have g0 := hH.cell 0
        have g1 := hH.cell 1
        have g2 := hH.cell 2
        simp at g0 g1 g2
        clear hH
        by_cases hkn : k < n
        · have hk1 : (k : Int) < n := by omega
          have hk0 : (0 : Int) ≤ k := by omega
          obtain ⟨f, hf⟩ : ∃ f, fs[k]? = some f := ⟨_, List.getElem?_eq_getElem (by rw [HN.out]; exact hkn)⟩
          obtain ⟨fb, fo, rfl, e0, e1, e2, e3, e4⟩ := fl_at HF.out HB.out hf
          obtain ⟨at_, hat⟩ : ∃ a, f.at_ = a := ⟨_, rfl⟩
          obtain ⟨kd, hkd⟩ : ∃ a, f.kd = a := ⟨_, rfl⟩
          obtain ⟨z, hz⟩ : ∃ z, szK kd = z := ⟨_, rfl⟩
          obtain ⟨cn, hcn⟩ : ∃ x, (fs.take k).countP (hitF j) = x := ⟨_, rfl⟩
          have hcn1 : cn ≤ 8 := by rw [← hcn]; have := List.countP_le_length (p := hitF (j : Int)) (l := fs.take k); rw [List.length_take] at this; have := HN8.out; have := HN.out; omega
          have hs := small_at HT.out f (List.mem_of_getElem? hf)
          have hsz := HZ.out
          rw [hat, hkd, hz] at hs
          rw [hat] at e2
          rw [hkd] at e1
          rw [hcn]
          obtain ⟨h, hh⟩ : ∃ h, wr.heap.size = h := ⟨_, rfl⟩
          have HL0 : Hid (Has (wr.alloc (.cells #[.string f.nm, .int .u8 kd, .int .i64 at_, .int .i64 f.of, .int .i64 f.node] 46)) h 46 #[.string f.nm, .int .u8 kd, .int .i64 at_, .int .i64 f.of, .int .i64 f.node]) := hide (by rw [← hh]; exact Has.new _ _ _)
          have E1 := hide (HL0.out.cell 1)
          have E2 := hide (HL0.out.cell 2)
          have HSB : Hid (∀ W, Calls Try.prog 21 #[.int .u8 kd] W fun e w' => e = .returned (.int .i64 z) ∧ Below W.heap.size W w') := hide (fun W => (ty_size W kd).mono (by rintro e w' ⟨rfl, rfl⟩; exact ⟨by rw [hz], Below.refl _ _⟩))
          have v1 : IntKind.i64.wrap (at_ + z) = at_ + z := by rw [w64]; unfold wrap64; have : sz ≤ 128 := hsz.2; have : at_ + z ≤ sz := hs.2.1; omega
          have HADD := hide (fun W : World => show (binOp .add 3 (.int .i64 at_) (.int .i64 z)).run Try.prog W = .ok (.int .i64 (at_ + z)) W by simp [go_sem, v1])
          have v2 : IntKind.i64.wrap ((cn : Int) + 1) = (cn : Int) + 1 := by rw [w64]; unfold wrap64; omega
          have v3 : IntKind.i64.wrap ((k : Int) + 1) = (k : Int) + 1 := by rw [w64]; unfold wrap64; have := HN8.out; omega
          clear v1 hs hsz hcn1
          by_cases q1 : (j : Int) ≥ at_
          · by_cases q2 : (j : Int) < at_ + z
            ·
              have HGEQ := hide (fun W : World => show (binOp .geq 3 (.int .i64 (j : Int)) (.int .i64 at_)).run Try.prog W = .ok (.bool true) W by simp [go_sem]; omega)
              have HLSS := hide (fun W : World => show (binOp .lss 3 (.int .i64 (j : Int)) (.int .i64 (at_ + z))).run Try.prog W = .ok (.bool true) W by simp [go_sem]; omega)
              have hnx : (fs.take (k + 1)).countP (hitF j) = cn + 1 := by
                rw [hit_next hf, hcn]
                congr 1
                unfold hitF
                rw [hat, hkd, hz]
                simp
                omega
              have HNX := hide hnx
              clear hnx hf hat hkd hz hcn
              go_wp2_with fail
              refine wp_region_fixed [33, 34, 35, 36, 37, 38, 39, 40, 41, 42, 43, 44, 45]
                [.int .i64 (j : Int), .pointer (some ⟨h, 2, none⟩), .int .i64 at_, .bool true, .bool true, .int .i64 (j : Int), .pointer (some ⟨h, 2, none⟩), .int .i64 at_, .pointer (some ⟨h, 1, none⟩), .int .u8 kd, .int .i64 z, .int .i64 (at_ + z), .bool true] (by kernel_rfl) (by simp) rfl (by kernel_rfl) (by kernel_rfl) (by kernel_rfl) (by simp) (by decide) ?_ ?_
              · refine ⟨?_, ?_, ?_, ?_, ?_, ?_, ?_, ?_, ?_, ?_, ?_, ?_, ?_, trivial⟩
                · exact .inl ⟨.inl rfl, fun a' W hB hold he K hK => fx_move (.tmp 3) _ (.inl rfl) (hold 3 (by decide)) (hK _ (Below.refl _ _))⟩
                · exact .inl ⟨.inl rfl, fun a' W hB hold he K hK => fx_field 46 (.tmp 6) 2 _ _ rfl (hold 6 (by decide)) (by kernel_rfl) (hK _ (Below.refl _ _))⟩
                · exact .inl ⟨.inl rfl, fun a' W hB hold he K hK => wp_step_load 3 (.tmp 34) _ rfl _ (he ⟨1, .data⟩ (by simp) rfl) (ld_i64 W _ _ _ (cell_bel (E2.out) hB)) (hK _ (Below.refl _ _))⟩
                · exact .inl ⟨.inl rfl, fun a' W hB hold he K hK => fx_bin .geq 3 3 (.tmp 33) (.tmp 35) _ _ _ rfl (he ⟨0, .data⟩ (by simp) rfl) (he ⟨2, .data⟩ (by simp) rfl) rfl (HGEQ.out _) (hK _ (Below.refl _ _))⟩
                · exact .inl ⟨.inl rfl, fun a' W hB hold he K hK => fx_move (.tmp 36) _ (.inl rfl) (he ⟨3, .data⟩ (by simp) rfl) (hK _ (Below.refl _ _))⟩
                · exact .inl ⟨.inr ⟨4, true, _, rfl, ⟨⟨4, .guard⟩, by simp, rfl, rfl⟩, rfl, rfl, by decide, rfl⟩, fun a' W hB hold he K hK => fx_move (.tmp 3) _ (.inl rfl) (hold 3 (by decide)) (hK _ (Below.refl _ _))⟩
                · exact .inl ⟨.inr ⟨4, true, _, rfl, ⟨⟨4, .guard⟩, by simp, rfl, rfl⟩, rfl, rfl, by decide, rfl⟩, fun a' W hB hold he K hK => fx_field 46 (.tmp 6) 2 _ _ rfl (hold 6 (by decide)) (by kernel_rfl) (hK _ (Below.refl _ _))⟩
                · exact .inl ⟨.inr ⟨4, true, _, rfl, ⟨⟨4, .guard⟩, by simp, rfl, rfl⟩, rfl, rfl, by decide, rfl⟩, fun a' W hB hold he K hK => wp_step_load 3 (.tmp 39) _ rfl _ (he ⟨6, .data⟩ (by simp) rfl) (ld_i64 W _ _ _ (cell_bel (E2.out) hB)) (hK _ (Below.refl _ _))⟩
                · exact .inl ⟨.inr ⟨4, true, _, rfl, ⟨⟨4, .guard⟩, by simp, rfl, rfl⟩, rfl, rfl, by decide, rfl⟩, fun a' W hB hold he K hK => fx_field 46 (.tmp 6) 1 _ _ rfl (hold 6 (by decide)) (by kernel_rfl) (hK _ (Below.refl _ _))⟩
                · exact .inl ⟨.inr ⟨4, true, _, rfl, ⟨⟨4, .guard⟩, by simp, rfl, rfl⟩, rfl, rfl, by decide, rfl⟩, fun a' W hB hold he K hK => wp_step_load 5 (.tmp 41) _ rfl _ (he ⟨8, .data⟩ (by simp) rfl) (ld_b8 W _ _ _ (cell_bel (E1.out) hB)) (hK _ (Below.refl _ _))⟩
                · exact .inl ⟨.inr ⟨4, true, _, rfl, ⟨⟨4, .guard⟩, by simp, rfl, rfl⟩, rfl, rfl, by decide, rfl⟩, fun a' W hB hold he K hK => (by have h0 : a'.eval (.tmp 42) = _ := (he ⟨9, .data⟩ (by simp) rfl); exact wp_step_call 21 #[_] (by simp only [execOp, h0]; simp [go_sem] <;> simp_all [Act.eval]) ((HSB.out W).mono (by rintro e1 w' ⟨rfl, hb⟩; exact ⟨_, rfl, hK _ hb⟩)))⟩
                · exact .inl ⟨.inr ⟨4, true, _, rfl, ⟨⟨4, .guard⟩, by simp, rfl, rfl⟩, rfl, rfl, by decide, rfl⟩, fun a' W hB hold he K hK => fx_bin .add 3 3 (.tmp 40) (.tmp 43) _ _ _ rfl (he ⟨7, .data⟩ (by simp) rfl) (he ⟨10, .data⟩ (by simp) rfl) rfl (HADD.out _) (hK _ (Below.refl _ _))⟩
                · exact .inl ⟨.inr ⟨4, true, _, rfl, ⟨⟨4, .guard⟩, by simp, rfl, rfl⟩, rfl, rfl, by decide, rfl⟩, fun a' W hB hold he K hK => fx_bin .lss 3 3 (.tmp 38) (.tmp 44) _ _ _ rfl (he ⟨5, .data⟩ (by simp) rfl) (he ⟨11, .data⟩ (by simp) rfl) rfl (HLSS.out _) (hK _ (Below.refl _ _))⟩
              intro W hB5
              simp only [putAll, List.length_cons, List.length_nil, Nat.reduceAdd, List.drop_succ_cons, List.drop_zero]
              have HB5 := hide (bel_trans (below_box wr (.cells #[.string f.nm, .int .u8 kd, .int .i64 at_, .int .i64 f.of, .int .i64 f.node] 46)) hB5)
              clear hB5
              go_wp2_with fail
              go_roundw
              case rel => exact ⟨k + 1, by omega, by rw [show (((k + 1 : Nat)) : Int) = (k : Int) + 1 by omega], by rw [HNX.out]; simp, HH.out.below HB5.out HH.out.lt, bel_trans HB.out HB5.out⟩
              case measure => simp [intOf]; omega
            ·
              have HGEQ := hide (fun W : World => show (binOp .geq 3 (.int .i64 (j : Int)) (.int .i64 at_)).run Try.prog W = .ok (.bool true) W by simp [go_sem]; omega)
              have HLSS := hide (fun W : World => show (binOp .lss 3 (.int .i64 (j : Int)) (.int .i64 (at_ + z))).run Try.prog W = .ok (.bool false) W by simp [go_sem]; omega)
              have hnx : (fs.take (k + 1)).countP (hitF j) = cn + 0 := by
                rw [hit_next hf, hcn]
                congr 1
                unfold hitF
                rw [hat, hkd, hz]
                simp
                omega
              have HNX := hide hnx
              clear hnx hf hat hkd hz hcn
              go_wp2_with fail
              refine wp_region_fixed [33, 34, 35, 36, 37, 38, 39, 40, 41, 42, 43, 44, 45]
                [.int .i64 (j : Int), .pointer (some ⟨h, 2, none⟩), .int .i64 at_, .bool true, .bool true, .int .i64 (j : Int), .pointer (some ⟨h, 2, none⟩), .int .i64 at_, .pointer (some ⟨h, 1, none⟩), .int .u8 kd, .int .i64 z, .int .i64 (at_ + z), .bool false] (by kernel_rfl) (by simp) rfl (by kernel_rfl) (by kernel_rfl) (by kernel_rfl) (by simp) (by decide) ?_ ?_
              · refine ⟨?_, ?_, ?_, ?_, ?_, ?_, ?_, ?_, ?_, ?_, ?_, ?_, ?_, trivial⟩
                · exact .inl ⟨.inl rfl, fun a' W hB hold he K hK => fx_move (.tmp 3) _ (.inl rfl) (hold 3 (by decide)) (hK _ (Below.refl _ _))⟩
                · exact .inl ⟨.inl rfl, fun a' W hB hold he K hK => fx_field 46 (.tmp 6) 2 _ _ rfl (hold 6 (by decide)) (by kernel_rfl) (hK _ (Below.refl _ _))⟩
                · exact .inl ⟨.inl rfl, fun a' W hB hold he K hK => wp_step_load 3 (.tmp 34) _ rfl _ (he ⟨1, .data⟩ (by simp) rfl) (ld_i64 W _ _ _ (cell_bel (E2.out) hB)) (hK _ (Below.refl _ _))⟩
                · exact .inl ⟨.inl rfl, fun a' W hB hold he K hK => fx_bin .geq 3 3 (.tmp 33) (.tmp 35) _ _ _ rfl (he ⟨0, .data⟩ (by simp) rfl) (he ⟨2, .data⟩ (by simp) rfl) rfl (HGEQ.out _) (hK _ (Below.refl _ _))⟩
                · exact .inl ⟨.inl rfl, fun a' W hB hold he K hK => fx_move (.tmp 36) _ (.inl rfl) (he ⟨3, .data⟩ (by simp) rfl) (hK _ (Below.refl _ _))⟩
                · exact .inl ⟨.inr ⟨4, true, _, rfl, ⟨⟨4, .guard⟩, by simp, rfl, rfl⟩, rfl, rfl, by decide, rfl⟩, fun a' W hB hold he K hK => fx_move (.tmp 3) _ (.inl rfl) (hold 3 (by decide)) (hK _ (Below.refl _ _))⟩
                · exact .inl ⟨.inr ⟨4, true, _, rfl, ⟨⟨4, .guard⟩, by simp, rfl, rfl⟩, rfl, rfl, by decide, rfl⟩, fun a' W hB hold he K hK => fx_field 46 (.tmp 6) 2 _ _ rfl (hold 6 (by decide)) (by kernel_rfl) (hK _ (Below.refl _ _))⟩
                · exact .inl ⟨.inr ⟨4, true, _, rfl, ⟨⟨4, .guard⟩, by simp, rfl, rfl⟩, rfl, rfl, by decide, rfl⟩, fun a' W hB hold he K hK => wp_step_load 3 (.tmp 39) _ rfl _ (he ⟨6, .data⟩ (by simp) rfl) (ld_i64 W _ _ _ (cell_bel (E2.out) hB)) (hK _ (Below.refl _ _))⟩
                · exact .inl ⟨.inr ⟨4, true, _, rfl, ⟨⟨4, .guard⟩, by simp, rfl, rfl⟩, rfl, rfl, by decide, rfl⟩, fun a' W hB hold he K hK => fx_field 46 (.tmp 6) 1 _ _ rfl (hold 6 (by decide)) (by kernel_rfl) (hK _ (Below.refl _ _))⟩
                · exact .inl ⟨.inr ⟨4, true, _, rfl, ⟨⟨4, .guard⟩, by simp, rfl, rfl⟩, rfl, rfl, by decide, rfl⟩, fun a' W hB hold he K hK => wp_step_load 5 (.tmp 41) _ rfl _ (he ⟨8, .data⟩ (by simp) rfl) (ld_b8 W _ _ _ (cell_bel (E1.out) hB)) (hK _ (Below.refl _ _))⟩
                · exact .inl ⟨.inr ⟨4, true, _, rfl, ⟨⟨4, .guard⟩, by simp, rfl, rfl⟩, rfl, rfl, by decide, rfl⟩, fun a' W hB hold he K hK => (by have h0 : a'.eval (.tmp 42) = _ := (he ⟨9, .data⟩ (by simp) rfl); exact wp_step_call 21 #[_] (by simp only [execOp, h0]; simp [go_sem] <;> simp_all [Act.eval]) ((HSB.out W).mono (by rintro e1 w' ⟨rfl, hb⟩; exact ⟨_, rfl, hK _ hb⟩)))⟩
                · exact .inl ⟨.inr ⟨4, true, _, rfl, ⟨⟨4, .guard⟩, by simp, rfl, rfl⟩, rfl, rfl, by decide, rfl⟩, fun a' W hB hold he K hK => fx_bin .add 3 3 (.tmp 40) (.tmp 43) _ _ _ rfl (he ⟨7, .data⟩ (by simp) rfl) (he ⟨10, .data⟩ (by simp) rfl) rfl (HADD.out _) (hK _ (Below.refl _ _))⟩
                · exact .inl ⟨.inr ⟨4, true, _, rfl, ⟨⟨4, .guard⟩, by simp, rfl, rfl⟩, rfl, rfl, by decide, rfl⟩, fun a' W hB hold he K hK => fx_bin .lss 3 3 (.tmp 38) (.tmp 44) _ _ _ rfl (he ⟨5, .data⟩ (by simp) rfl) (he ⟨11, .data⟩ (by simp) rfl) rfl (HLSS.out _) (hK _ (Below.refl _ _))⟩
              intro W hB5
              simp only [putAll, List.length_cons, List.length_nil, Nat.reduceAdd, List.drop_succ_cons, List.drop_zero]
              have HB5 := hide (bel_trans (below_box wr (.cells #[.string f.nm, .int .u8 kd, .int .i64 at_, .int .i64 f.of, .int .i64 f.node] 46)) hB5)
              clear hB5
              go_wp2_with fail
              go_roundw
              case rel => exact ⟨k + 1, by omega, by rw [show (((k + 1 : Nat)) : Int) = (k : Int) + 1 by omega], by rw [HNX.out]; simp, HH.out.below HB5.out HH.out.lt, bel_trans HB.out HB5.out⟩
              case measure => simp [intOf]; omega
          · by_cases q2 : (j : Int) < at_ + z
            ·
              have HGEQ := hide (fun W : World => show (binOp .geq 3 (.int .i64 (j : Int)) (.int .i64 at_)).run Try.prog W = .ok (.bool false) W by simp [go_sem]; omega)
              have HLSS := hide (fun W : World => show (binOp .lss 3 (.int .i64 (j : Int)) (.int .i64 (at_ + z))).run Try.prog W = .ok (.bool true) W by simp [go_sem]; omega)
              have hnx : (fs.take (k + 1)).countP (hitF j) = cn + 0 := by
                rw [hit_next hf, hcn]
                congr 1
                unfold hitF
                rw [hat, hkd, hz]
                simp
                omega
              have HNX := hide hnx
              clear hnx hf hat hkd hz hcn
              go_wp2_with fail
              refine wp_region_fixed [33, 34, 35, 36, 37, 38, 39, 40, 41, 42, 43, 44, 45]
                [.int .i64 (j : Int), .pointer (some ⟨h, 2, none⟩), .int .i64 at_, .bool false, .bool false, undef, undef, undef, undef, undef, undef, undef, undef] (by kernel_rfl) (by simp) rfl (by kernel_rfl) (by kernel_rfl) (by kernel_rfl) (by simp) (by decide) ?_ ?_
              · refine ⟨?_, ?_, ?_, ?_, ?_, ?_, ?_, ?_, ?_, ?_, ?_, ?_, ?_, trivial⟩
                · exact .inl ⟨.inl rfl, fun a' W hB hold he K hK => fx_move (.tmp 3) _ (.inl rfl) (hold 3 (by decide)) (hK _ (Below.refl _ _))⟩
                · exact .inl ⟨.inl rfl, fun a' W hB hold he K hK => fx_field 46 (.tmp 6) 2 _ _ rfl (hold 6 (by decide)) (by kernel_rfl) (hK _ (Below.refl _ _))⟩
                · exact .inl ⟨.inl rfl, fun a' W hB hold he K hK => wp_step_load 3 (.tmp 34) _ rfl _ (he ⟨1, .data⟩ (by simp) rfl) (ld_i64 W _ _ _ (cell_bel (E2.out) hB)) (hK _ (Below.refl _ _))⟩
                · exact .inl ⟨.inl rfl, fun a' W hB hold he K hK => fx_bin .geq 3 3 (.tmp 33) (.tmp 35) _ _ _ rfl (he ⟨0, .data⟩ (by simp) rfl) (he ⟨2, .data⟩ (by simp) rfl) rfl (HGEQ.out _) (hK _ (Below.refl _ _))⟩
                · exact .inl ⟨.inl rfl, fun a' W hB hold he K hK => fx_move (.tmp 36) _ (.inl rfl) (he ⟨3, .data⟩ (by simp) rfl) (hK _ (Below.refl _ _))⟩
                · exact .inr ⟨rfl, rfl, 4, true, _, rfl, ⟨⟨4, .guard⟩, by simp, rfl, rfl⟩, rfl, rfl, by decide, by intro h; cases h⟩
                · exact .inr ⟨rfl, rfl, 4, true, _, rfl, ⟨⟨4, .guard⟩, by simp, rfl, rfl⟩, rfl, rfl, by decide, by intro h; cases h⟩
                · exact .inr ⟨rfl, rfl, 4, true, _, rfl, ⟨⟨4, .guard⟩, by simp, rfl, rfl⟩, rfl, rfl, by decide, by intro h; cases h⟩
                · exact .inr ⟨rfl, rfl, 4, true, _, rfl, ⟨⟨4, .guard⟩, by simp, rfl, rfl⟩, rfl, rfl, by decide, by intro h; cases h⟩
                · exact .inr ⟨rfl, rfl, 4, true, _, rfl, ⟨⟨4, .guard⟩, by simp, rfl, rfl⟩, rfl, rfl, by decide, by intro h; cases h⟩
                · exact .inr ⟨rfl, rfl, 4, true, _, rfl, ⟨⟨4, .guard⟩, by simp, rfl, rfl⟩, rfl, rfl, by decide, by intro h; cases h⟩
                · exact .inr ⟨rfl, rfl, 4, true, _, rfl, ⟨⟨4, .guard⟩, by simp, rfl, rfl⟩, rfl, rfl, by decide, by intro h; cases h⟩
                · exact .inr ⟨rfl, rfl, 4, true, _, rfl, ⟨⟨4, .guard⟩, by simp, rfl, rfl⟩, rfl, rfl, by decide, by intro h; cases h⟩
              intro W hB5
              simp only [putAll, List.length_cons, List.length_nil, Nat.reduceAdd, List.drop_succ_cons, List.drop_zero]
              have HB5 := hide (bel_trans (below_box wr (.cells #[.string f.nm, .int .u8 kd, .int .i64 at_, .int .i64 f.of, .int .i64 f.node] 46)) hB5)
              clear hB5
              go_wp2_with fail
              go_roundw
              case rel => exact ⟨k + 1, by omega, by rw [show (((k + 1 : Nat)) : Int) = (k : Int) + 1 by omega], by rw [HNX.out]; simp, HH.out.below HB5.out HH.out.lt, bel_trans HB.out HB5.out⟩
              case measure => simp [intOf]; omega
            ·
              have HGEQ := hide (fun W : World => show (binOp .geq 3 (.int .i64 (j : Int)) (.int .i64 at_)).run Try.prog W = .ok (.bool false) W by simp [go_sem]; omega)
              have HLSS := hide (fun W : World => show (binOp .lss 3 (.int .i64 (j : Int)) (.int .i64 (at_ + z))).run Try.prog W = .ok (.bool false) W by simp [go_sem]; omega)
              have hnx : (fs.take (k + 1)).countP (hitF j) = cn + 0 := by
                rw [hit_next hf, hcn]
                congr 1
                unfold hitF
                rw [hat, hkd, hz]
                simp
                omega
              have HNX := hide hnx
              clear hnx hf hat hkd hz hcn
              go_wp2_with fail
              refine wp_region_fixed [33, 34, 35, 36, 37, 38, 39, 40, 41, 42, 43, 44, 45]
                [.int .i64 (j : Int), .pointer (some ⟨h, 2, none⟩), .int .i64 at_, .bool false, .bool false, undef, undef, undef, undef, undef, undef, undef, undef] (by kernel_rfl) (by simp) rfl (by kernel_rfl) (by kernel_rfl) (by kernel_rfl) (by simp) (by decide) ?_ ?_
              · refine ⟨?_, ?_, ?_, ?_, ?_, ?_, ?_, ?_, ?_, ?_, ?_, ?_, ?_, trivial⟩
                · exact .inl ⟨.inl rfl, fun a' W hB hold he K hK => fx_move (.tmp 3) _ (.inl rfl) (hold 3 (by decide)) (hK _ (Below.refl _ _))⟩
                · exact .inl ⟨.inl rfl, fun a' W hB hold he K hK => fx_field 46 (.tmp 6) 2 _ _ rfl (hold 6 (by decide)) (by kernel_rfl) (hK _ (Below.refl _ _))⟩
                · exact .inl ⟨.inl rfl, fun a' W hB hold he K hK => wp_step_load 3 (.tmp 34) _ rfl _ (he ⟨1, .data⟩ (by simp) rfl) (ld_i64 W _ _ _ (cell_bel (E2.out) hB)) (hK _ (Below.refl _ _))⟩
                · exact .inl ⟨.inl rfl, fun a' W hB hold he K hK => fx_bin .geq 3 3 (.tmp 33) (.tmp 35) _ _ _ rfl (he ⟨0, .data⟩ (by simp) rfl) (he ⟨2, .data⟩ (by simp) rfl) rfl (HGEQ.out _) (hK _ (Below.refl _ _))⟩
                · exact .inl ⟨.inl rfl, fun a' W hB hold he K hK => fx_move (.tmp 36) _ (.inl rfl) (he ⟨3, .data⟩ (by simp) rfl) (hK _ (Below.refl _ _))⟩
                · exact .inr ⟨rfl, rfl, 4, true, _, rfl, ⟨⟨4, .guard⟩, by simp, rfl, rfl⟩, rfl, rfl, by decide, by intro h; cases h⟩
                · exact .inr ⟨rfl, rfl, 4, true, _, rfl, ⟨⟨4, .guard⟩, by simp, rfl, rfl⟩, rfl, rfl, by decide, by intro h; cases h⟩
                · exact .inr ⟨rfl, rfl, 4, true, _, rfl, ⟨⟨4, .guard⟩, by simp, rfl, rfl⟩, rfl, rfl, by decide, by intro h; cases h⟩
                · exact .inr ⟨rfl, rfl, 4, true, _, rfl, ⟨⟨4, .guard⟩, by simp, rfl, rfl⟩, rfl, rfl, by decide, by intro h; cases h⟩
                · exact .inr ⟨rfl, rfl, 4, true, _, rfl, ⟨⟨4, .guard⟩, by simp, rfl, rfl⟩, rfl, rfl, by decide, by intro h; cases h⟩
                · exact .inr ⟨rfl, rfl, 4, true, _, rfl, ⟨⟨4, .guard⟩, by simp, rfl, rfl⟩, rfl, rfl, by decide, by intro h; cases h⟩
                · exact .inr ⟨rfl, rfl, 4, true, _, rfl, ⟨⟨4, .guard⟩, by simp, rfl, rfl⟩, rfl, rfl, by decide, by intro h; cases h⟩
                · exact .inr ⟨rfl, rfl, 4, true, _, rfl, ⟨⟨4, .guard⟩, by simp, rfl, rfl⟩, rfl, rfl, by decide, by intro h; cases h⟩
              intro W hB5
              simp only [putAll, List.length_cons, List.length_nil, Nat.reduceAdd, List.drop_succ_cons, List.drop_zero]
              have HB5 := hide (bel_trans (below_box wr (.cells #[.string f.nm, .int .u8 kd, .int .i64 at_, .int .i64 f.of, .int .i64 f.node] 46)) hB5)
              clear hB5
              go_wp2_with fail
              go_roundw
              case rel => exact ⟨k + 1, by omega, by rw [show (((k + 1 : Nat)) : Int) = (k : Int) + 1 by omega], by rw [HNX.out]; simp, HH.out.below HB5.out HH.out.lt, bel_trans HB.out HB5.out⟩
              case measure => simp [intOf]; omega
        · obtain rfl : k = n := by omega
          have htk : fs.take k = fs := List.take_of_length_le (by rw [HN.out]; exact Nat.le_refl _)
          rw [htk]
          have hone : fs.countP (hitF j) ≤ 1 := hit_one HT.out j
          have hpl : plainF sz fs j 1 = decide (fs.countP (hitF j) = 0) := hit_plain HT.out (by omega) HJS.out
          obtain ⟨cn, hcn⟩ : ∃ x, fs.countP (hitF j) = x := ⟨_, rfl⟩
          rw [hcn] at hone hpl
          rw [hcn]
          have v3 : IntKind.i64.wrap ((j : Int) + 1) = (j : Int) + 1 := by rw [w64]; unfold wrap64; have := HZ.out; have := HJS.out; omega
          clear hcn htk hkn hk
          have hcc : cn = 0 ∨ cn = 1 := by omega
          clear hone
          rcases hcc with rfl | rfl
          ·
            have HPE := hide (HP.out _ HB.out j 1)
            rw [hpl] at HPE
            clear hpl
            go_wp2_with fail
            refine HPE.out.mono ?_
            rintro e w5 ⟨rfl, hb5⟩
            have HB5 := hide hb5
            clear hb5
            go_wp2_with fail
            go_roundw
            case rel => exact ⟨j + 1, by have := HJS.out; omega, by rw [show (((j + 1 : Nat)) : Int) = (j : Int) + 1 by omega], HH.out.below HB5.out HH.out.lt, bel_trans HB.out HB5.out⟩
            case measure => have := HJS.out; simp [intOf]; omega
          ·
            have HPE := hide (HP.out _ HB.out j 1)
            rw [hpl] at HPE
            clear hpl
            go_wp2_with fail
            refine HPE.out.mono ?_
            rintro e w5 ⟨rfl, hb5⟩
            have HB5 := hide hb5
            clear hb5
            go_wp2_with fail
            go_roundw
            case rel => exact ⟨j + 1, by have := HJS.out; omega, by rw [show (((j + 1 : Nat)) : Int) = (j : Int) + 1 by omega], HH.out.below HB5.out HH.out.lt, bel_trans HB.out HB5.out⟩
            case measure => have := HJS.out; simp [intOf]; omega
    · have hjz : (j : Int) = sz := by have := HJ.out; omega
      have ho := hit_out HT.out
      have HO := hide (show plainF sz fs sz 1 = false ∧ plainF sz fs (-1) 1 = false ∧ plainF sz fs 0 0 = false ∧ plainF sz fs 0 (sz + 1) = false from ho)
      have P1 := hide (fun W (hW : Below w.heap.size w W) => HP.out W hW sz 1)
      rw [HO.out.1] at P1
      have P2 := hide (fun W (hW : Below w.heap.size w W) => HP.out W hW (-1) 1)
      rw [HO.out.2.1] at P2
      have P3 := hide (fun W (hW : Below w.heap.size w W) => HP.out W hW 0 0)
      rw [HO.out.2.2.1] at P3
      have P4 := hide (fun W (hW : Below w.heap.size w W) => HP.out W hW 0 (sz + 1))
      rw [HO.out.2.2.2] at P4
      clear hjz ho HO
      go_wp2_with fail
      refine (P1.out _ HB.out).mono ?_
      rintro e w1 ⟨rfl, hb⟩
      have HB1 := hide (bel_trans HB.out hb)
      have HH1 := hide (HH.out.below hb HH.out.lt)
      have g0 := HH1.out.cell 0
      have g1 := HH1.out.cell 1
      have g2 := HH1.out.cell 2
      simp at g0 g1 g2
      clear hb
      go_wp2_with fail
      refine (P2.out _ HB1.out).mono ?_
      rintro e w2 ⟨rfl, hb⟩
      have HB2 := hide (bel_trans HB1.out hb)
      have HH2 := hide (HH1.out.below hb HH1.out.lt)
      have g0 := HH2.out.cell 0
      have g1 := HH2.out.cell 1
      have g2 := HH2.out.cell 2
      simp at g0 g1 g2
      clear hb
      go_wp2_with fail
      refine (P3.out _ HB2.out).mono ?_
      rintro e w3 ⟨rfl, hb⟩
      have HB3 := hide (bel_trans HB2.out hb)
      have HH3 := hide (HH2.out.below hb HH2.out.lt)
      have g0 := HH3.out.cell 0
      have g1 := HH3.out.cell 1
      have g2 := HH3.out.cell 2
      simp at g0 g1 g2
      clear hb
      go_wp2_with fail
      refine (P4.out _ HB3.out).mono ?_
      rintro e w4 ⟨rfl, hb⟩
      have HB4 := hide (bel_trans HB3.out hb)
      clear hb
      go_wp2_with fail
      go_ret
      exact ⟨rfl, HB4.out⟩
end Go.Proofs.Ytkflofjcjolehaa
