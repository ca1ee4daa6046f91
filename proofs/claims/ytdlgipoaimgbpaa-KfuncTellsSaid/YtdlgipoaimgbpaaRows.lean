/-
  No cell of these rows narrows 'for every input' (looked for: loops, veiled, ifaces, maps, wideKeys, modest, calm, conditions, laid).
  DERIVED. THE GIVEN ROWS OF THIS SEAT. 8 by the template 'for every input the law returns true; each argument reads behind the call as it read before'; 0 by the template 'total and deterministic' (their statements: YtdlgipoaimgbpaaTotals.lean).
  GIVEN WITH THE SEED: the statements are not yours to turn. If you find one false, say at which input.
  Laid BY PROGRAM, IN A SANDBOX (cutbox-rows.mjs): the forced cells as the released guide's own fill.sh prints them over the translation 46c99776d994eb32… (all of the seat's roots in one cut). By AI agents, Wed Nov 11 2026. No macro, syntax, notation, axiom, sorry.
-/
import Derived.Test.YtdlgipoaimgbpaaChecked
import GoSem.Claim
import GoSem.ClaimJoined
import GoSem.ClaimMapViews
import Derived.JoinedTies
import Derived.KernelRfl
namespace Go.Proofs.Ytdlgipoaimgbpaa
/- THE CELL 'sum', in the pinned program and in every row, IS THE sha256 OF THE DUMP (.gsa) THAT YtdlgipoaimgbpaaProg.lean LOADS. Nothing in Lean hashes anything: it is a label: what it is worth is what the hold of that sum in a sandbox is worth. -/
noncomputable def Try.pinned : Pinned := { name := "ytdlgipoaimgbpaa", sum := "46c99776d994eb3270601ff4dae0091224b88b3ccc3f7eac546f81dd78342e59", checked := Try.checked }
namespace Rows
def none {H : Type} : Left H := { results := [], args := [] }

/-- 'wardenlaw02.AluRules': WHATEVER THE INPUT: true; the input reads as it did. -/
def aluRulesSpec : ChangeSpec := { name := "aluRules", fn := fun _ => fun
  | [d1, d2, d3, d4] => { results := [.lit (.bool true)], args := [d1, d2, d3, d4] }
  | _ => none }
def aluRulesRow : OpenClaim := { program := "ytdlgipoaimgbpaa", sum := "46c99776d994eb3270601ff4dae0091224b88b3ccc3f7eac546f81dd78342e59", func := "warden/wardenlaw02.AluRules", spec := "aluRules", unfollowed := true, recurses := true, apart := false }
def AluRulesSaid : Prop := aluRulesRow.holds Try.pinned (OpenSpec.ofChange aluRulesSpec)

/-- ITS FALSE NEIGHBOUR: 'it returns false'. Refute it at one input. -/
def aluRulesWrong : ChangeSpec := { name := "aluRules", fn := fun _ => fun
  | [d1, d2, d3, d4] => { results := [.lit (.bool false)], args := [d1, d2, d3, d4] }
  | _ => none }
def AluRulesWrongFalsely : Prop := aluRulesRow.holds Try.pinned (OpenSpec.ofChange aluRulesWrong)

/-- 'wardenlaw02.AluNarrow': WHATEVER THE INPUT: true; the input reads as it did. -/
def aluNarrowSpec : ChangeSpec := { name := "aluNarrow", fn := fun _ => fun
  | [d1, d2, d3, d4] => { results := [.lit (.bool true)], args := [d1, d2, d3, d4] }
  | _ => none }
def aluNarrowRow : OpenClaim := { program := "ytdlgipoaimgbpaa", sum := "46c99776d994eb3270601ff4dae0091224b88b3ccc3f7eac546f81dd78342e59", func := "warden/wardenlaw02.AluNarrow", spec := "aluNarrow", unfollowed := true, recurses := true, apart := false }
def AluNarrowSaid : Prop := aluNarrowRow.holds Try.pinned (OpenSpec.ofChange aluNarrowSpec)

/-- ITS FALSE NEIGHBOUR: 'it returns false'. Refute it at one input. -/
def aluNarrowWrong : ChangeSpec := { name := "aluNarrow", fn := fun _ => fun
  | [d1, d2, d3, d4] => { results := [.lit (.bool false)], args := [d1, d2, d3, d4] }
  | _ => none }
def AluNarrowWrongFalsely : Prop := aluNarrowRow.holds Try.pinned (OpenSpec.ofChange aluNarrowWrong)

/-- 'wardenlaw02.AluShifts': WHATEVER THE INPUT: true; the input reads as it did. -/
def aluShiftsSpec : ChangeSpec := { name := "aluShifts", fn := fun _ => fun
  | [d1, d2, d3] => { results := [.lit (.bool true)], args := [d1, d2, d3] }
  | _ => none }
def aluShiftsRow : OpenClaim := { program := "ytdlgipoaimgbpaa", sum := "46c99776d994eb3270601ff4dae0091224b88b3ccc3f7eac546f81dd78342e59", func := "warden/wardenlaw02.AluShifts", spec := "aluShifts", unfollowed := true, recurses := true, apart := false }
def AluShiftsSaid : Prop := aluShiftsRow.holds Try.pinned (OpenSpec.ofChange aluShiftsSpec)

/-- ITS FALSE NEIGHBOUR: 'it returns false'. Refute it at one input. -/
def aluShiftsWrong : ChangeSpec := { name := "aluShifts", fn := fun _ => fun
  | [d1, d2, d3] => { results := [.lit (.bool false)], args := [d1, d2, d3] }
  | _ => none }
def AluShiftsWrongFalsely : Prop := aluShiftsRow.holds Try.pinned (OpenSpec.ofChange aluShiftsWrong)

/-- 'wardenlaw25.KfuncTells': WHATEVER THE INPUT: true; the input reads as it did. -/
def kfuncTellsSpec : ChangeSpec := { name := "kfuncTells", fn := fun _ => fun
  | [d1, d2, d3] => { results := [.lit (.bool true)], args := [d1, d2, d3] }
  | _ => none }
def kfuncTellsRow : OpenClaim := { program := "ytdlgipoaimgbpaa", sum := "46c99776d994eb3270601ff4dae0091224b88b3ccc3f7eac546f81dd78342e59", func := "warden/wardenlaw25.KfuncTells", spec := "kfuncTells", unfollowed := true, recurses := true, apart := false }
def KfuncTellsSaid : Prop := kfuncTellsRow.holds Try.pinned (OpenSpec.ofChange kfuncTellsSpec)

/-- ITS FALSE NEIGHBOUR: 'it returns false'. Refute it at one input. -/
def kfuncTellsWrong : ChangeSpec := { name := "kfuncTells", fn := fun _ => fun
  | [d1, d2, d3] => { results := [.lit (.bool false)], args := [d1, d2, d3] }
  | _ => none }
def KfuncTellsWrongFalsely : Prop := kfuncTellsRow.holds Try.pinned (OpenSpec.ofChange kfuncTellsWrong)

/-- 'wardenlaw25.KfuncSound': WHATEVER THE INPUT: true; the input reads as it did. -/
def kfuncSoundSpec : ChangeSpec := { name := "kfuncSound", fn := fun _ => fun
  | [d1, d2] => { results := [.lit (.bool true)], args := [d1, d2] }
  | _ => none }
def kfuncSoundRow : OpenClaim := { program := "ytdlgipoaimgbpaa", sum := "46c99776d994eb3270601ff4dae0091224b88b3ccc3f7eac546f81dd78342e59", func := "warden/wardenlaw25.KfuncSound", spec := "kfuncSound", unfollowed := true, recurses := true, apart := false }
def KfuncSoundSaid : Prop := kfuncSoundRow.holds Try.pinned (OpenSpec.ofChange kfuncSoundSpec)

/-- ITS FALSE NEIGHBOUR: 'it returns false'. Refute it at one input. -/
def kfuncSoundWrong : ChangeSpec := { name := "kfuncSound", fn := fun _ => fun
  | [d1, d2] => { results := [.lit (.bool false)], args := [d1, d2] }
  | _ => none }
def KfuncSoundWrongFalsely : Prop := kfuncSoundRow.holds Try.pinned (OpenSpec.ofChange kfuncSoundWrong)

/-- 'wardenlaw25.KfuncOwn': WHATEVER THE INPUT: true; the input reads as it did. -/
def kfuncOwnSpec : ChangeSpec := { name := "kfuncOwn", fn := fun _ => fun
  | [d1, d2] => { results := [.lit (.bool true)], args := [d1, d2] }
  | _ => none }
def kfuncOwnRow : OpenClaim := { program := "ytdlgipoaimgbpaa", sum := "46c99776d994eb3270601ff4dae0091224b88b3ccc3f7eac546f81dd78342e59", func := "warden/wardenlaw25.KfuncOwn", spec := "kfuncOwn", unfollowed := true, recurses := true, apart := false }
def KfuncOwnSaid : Prop := kfuncOwnRow.holds Try.pinned (OpenSpec.ofChange kfuncOwnSpec)

/-- ITS FALSE NEIGHBOUR: 'it returns false'. Refute it at one input. -/
def kfuncOwnWrong : ChangeSpec := { name := "kfuncOwn", fn := fun _ => fun
  | [d1, d2] => { results := [.lit (.bool false)], args := [d1, d2] }
  | _ => none }
def KfuncOwnWrongFalsely : Prop := kfuncOwnRow.holds Try.pinned (OpenSpec.ofChange kfuncOwnWrong)

/-- 'wardenlaw02.AluTells': WHATEVER THE INPUT: true; the input reads as it did. -/
def aluTellsSpec : ChangeSpec := { name := "aluTells", fn := fun _ => fun
  | [d1, d2, d3, d4] => { results := [.lit (.bool true)], args := [d1, d2, d3, d4] }
  | _ => none }
def aluTellsRow : OpenClaim := { program := "ytdlgipoaimgbpaa", sum := "46c99776d994eb3270601ff4dae0091224b88b3ccc3f7eac546f81dd78342e59", func := "warden/wardenlaw02.AluTells", spec := "aluTells", unfollowed := true, recurses := true, apart := false }
def AluTellsSaid : Prop := aluTellsRow.holds Try.pinned (OpenSpec.ofChange aluTellsSpec)

/-- ITS FALSE NEIGHBOUR: 'it returns false'. Refute it at one input. -/
def aluTellsWrong : ChangeSpec := { name := "aluTells", fn := fun _ => fun
  | [d1, d2, d3, d4] => { results := [.lit (.bool false)], args := [d1, d2, d3, d4] }
  | _ => none }
def AluTellsWrongFalsely : Prop := aluTellsRow.holds Try.pinned (OpenSpec.ofChange aluTellsWrong)

/-- 'wardenlaw02.AluAsks': WHATEVER THE INPUT: true; the input reads as it did. -/
def aluAsksSpec : ChangeSpec := { name := "aluAsks", fn := fun _ => fun
  | [d1, d2, d3, d4] => { results := [.lit (.bool true)], args := [d1, d2, d3, d4] }
  | _ => none }
def aluAsksRow : OpenClaim := { program := "ytdlgipoaimgbpaa", sum := "46c99776d994eb3270601ff4dae0091224b88b3ccc3f7eac546f81dd78342e59", func := "warden/wardenlaw02.AluAsks", spec := "aluAsks", unfollowed := true, recurses := true, apart := false }
def AluAsksSaid : Prop := aluAsksRow.holds Try.pinned (OpenSpec.ofChange aluAsksSpec)

/-- ITS FALSE NEIGHBOUR: 'it returns false'. Refute it at one input. -/
def aluAsksWrong : ChangeSpec := { name := "aluAsks", fn := fun _ => fun
  | [d1, d2, d3, d4] => { results := [.lit (.bool false)], args := [d1, d2, d3, d4] }
  | _ => none }
def AluAsksWrongFalsely : Prop := aluAsksRow.holds Try.pinned (OpenSpec.ofChange aluAsksWrong)

/- THE SECOND FORM. 'bulk': how many values and letters a reading holds, each counted each time it is reached (what is shared counts as often as it is met; a slice's spare places count too). A statement '..UptoSaid' is the law's where the arguments, and the package variables that the reading takes, are together of bulk at most 1048576: NARROWER than '..Said'. Prove '..Said' where nothing that the law and all that it calls make is longer than what came in: it says more and counts as full. Else prove '..UptoSaid'. A law counts once. -/
mutual
def uptoBulk {H : Type} : DataW H → Nat
  | .lit (.string bytes) => bytes.length + 1
  | .lit _ => 1
  | .nil => 1
  | .ptr d => uptoBulk d + 1
  | .slice elems spare => uptoBulkAll elems + uptoBulkAll spare + 1
  | .agg parts => uptoBulkAll parts + 1
  | .iface _ d => uptoBulk d + 1
  | .map entries => uptoBulkEntries entries + 1
  | .held _ => 1
def uptoBulkAll {H : Type} : List (DataW H) → Nat
  | [] => 0
  | d :: r => uptoBulk d + uptoBulkAll r
def uptoBulkEntries {H : Type} : List (Lit × DataW H) → Nat
  | [] => 0
  | x :: r => uptoBulkEntry x + uptoBulkEntries r
def uptoBulkEntry {H : Type} : Lit × DataW H → Nat
  | (.string bytes, d) => bytes.length + uptoBulk d + 1
  | (_, d) => uptoBulk d + 1
 end
def uptoSmall : (H : Type) → List (DataW H) → Bool := fun _ ds => decide (uptoBulkAll ds ≤ 1048576)
def OpenSpec.upto (s : _root_.Go.ChangeSpec) : _root_.Go.OpenSpec := { _root_.Go.OpenSpec.ofChange s with cond := some uptoSmall }

/-- 'wardenlaw02.AluRules', WHERE WHAT IT READS IS OF BULK AT MOST 1048576: true; the input reads as it did. -/
def aluRulesUptoRow : OpenClaim := { program := "ytdlgipoaimgbpaa", sum := "46c99776d994eb3270601ff4dae0091224b88b3ccc3f7eac546f81dd78342e59", func := "warden/wardenlaw02.AluRules", spec := "aluRules", unfollowed := true, recurses := true, apart := false, narrowed := true }
def AluRulesUptoSaid : Prop := aluRulesUptoRow.holds Try.pinned (OpenSpec.upto aluRulesSpec)

/-- 'wardenlaw02.AluNarrow', WHERE WHAT IT READS IS OF BULK AT MOST 1048576: true; the input reads as it did. -/
def aluNarrowUptoRow : OpenClaim := { program := "ytdlgipoaimgbpaa", sum := "46c99776d994eb3270601ff4dae0091224b88b3ccc3f7eac546f81dd78342e59", func := "warden/wardenlaw02.AluNarrow", spec := "aluNarrow", unfollowed := true, recurses := true, apart := false, narrowed := true }
def AluNarrowUptoSaid : Prop := aluNarrowUptoRow.holds Try.pinned (OpenSpec.upto aluNarrowSpec)

/-- 'wardenlaw02.AluShifts', WHERE WHAT IT READS IS OF BULK AT MOST 1048576: true; the input reads as it did. -/
def aluShiftsUptoRow : OpenClaim := { program := "ytdlgipoaimgbpaa", sum := "46c99776d994eb3270601ff4dae0091224b88b3ccc3f7eac546f81dd78342e59", func := "warden/wardenlaw02.AluShifts", spec := "aluShifts", unfollowed := true, recurses := true, apart := false, narrowed := true }
def AluShiftsUptoSaid : Prop := aluShiftsUptoRow.holds Try.pinned (OpenSpec.upto aluShiftsSpec)

/-- 'wardenlaw25.KfuncTells', WHERE WHAT IT READS IS OF BULK AT MOST 1048576: true; the input reads as it did. -/
def kfuncTellsUptoRow : OpenClaim := { program := "ytdlgipoaimgbpaa", sum := "46c99776d994eb3270601ff4dae0091224b88b3ccc3f7eac546f81dd78342e59", func := "warden/wardenlaw25.KfuncTells", spec := "kfuncTells", unfollowed := true, recurses := true, apart := false, narrowed := true }
def KfuncTellsUptoSaid : Prop := kfuncTellsUptoRow.holds Try.pinned (OpenSpec.upto kfuncTellsSpec)

/-- 'wardenlaw25.KfuncSound', WHERE WHAT IT READS IS OF BULK AT MOST 1048576: true; the input reads as it did. -/
def kfuncSoundUptoRow : OpenClaim := { program := "ytdlgipoaimgbpaa", sum := "46c99776d994eb3270601ff4dae0091224b88b3ccc3f7eac546f81dd78342e59", func := "warden/wardenlaw25.KfuncSound", spec := "kfuncSound", unfollowed := true, recurses := true, apart := false, narrowed := true }
def KfuncSoundUptoSaid : Prop := kfuncSoundUptoRow.holds Try.pinned (OpenSpec.upto kfuncSoundSpec)

/-- 'wardenlaw25.KfuncOwn', WHERE WHAT IT READS IS OF BULK AT MOST 1048576: true; the input reads as it did. -/
def kfuncOwnUptoRow : OpenClaim := { program := "ytdlgipoaimgbpaa", sum := "46c99776d994eb3270601ff4dae0091224b88b3ccc3f7eac546f81dd78342e59", func := "warden/wardenlaw25.KfuncOwn", spec := "kfuncOwn", unfollowed := true, recurses := true, apart := false, narrowed := true }
def KfuncOwnUptoSaid : Prop := kfuncOwnUptoRow.holds Try.pinned (OpenSpec.upto kfuncOwnSpec)

/-- 'wardenlaw02.AluTells', WHERE WHAT IT READS IS OF BULK AT MOST 1048576: true; the input reads as it did. -/
def aluTellsUptoRow : OpenClaim := { program := "ytdlgipoaimgbpaa", sum := "46c99776d994eb3270601ff4dae0091224b88b3ccc3f7eac546f81dd78342e59", func := "warden/wardenlaw02.AluTells", spec := "aluTells", unfollowed := true, recurses := true, apart := false, narrowed := true }
def AluTellsUptoSaid : Prop := aluTellsUptoRow.holds Try.pinned (OpenSpec.upto aluTellsSpec)

/-- 'wardenlaw02.AluAsks', WHERE WHAT IT READS IS OF BULK AT MOST 1048576: true; the input reads as it did. -/
def aluAsksUptoRow : OpenClaim := { program := "ytdlgipoaimgbpaa", sum := "46c99776d994eb3270601ff4dae0091224b88b3ccc3f7eac546f81dd78342e59", func := "warden/wardenlaw02.AluAsks", spec := "aluAsks", unfollowed := true, recurses := true, apart := false, narrowed := true }
def AluAsksUptoSaid : Prop := aluAsksUptoRow.holds Try.pinned (OpenSpec.upto aluAsksSpec)

end Rows
end Go.Proofs.Ytdlgipoaimgbpaa
