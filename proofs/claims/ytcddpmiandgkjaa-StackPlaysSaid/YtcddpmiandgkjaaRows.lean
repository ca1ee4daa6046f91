/-
  No cell of these rows narrows 'for every input' (looked for: loops, veiled, ifaces, maps, wideKeys, modest, calm, conditions, laid).
  DERIVED. THE GIVEN ROWS OF THIS SEAT. 7 by the template 'for every input the law returns true; each argument reads behind the call as it read before'; 0 by the template 'total and deterministic' (their statements: YtcddpmiandgkjaaTotals.lean).
  GIVEN WITH THE SEED: the statements are not yours to turn. If you find one false, say at which input.
  Laid BY PROGRAM, IN A SANDBOX (cutbox-rows.mjs): the forced cells as the released guide's own fill.sh prints them over the translation 5542d38f72d293a2… (all of the seat's roots in one cut). By AI agents, Wed Nov 11 2026. No macro, syntax, notation, axiom, sorry.
-/
import Derived.Test.YtcddpmiandgkjaaChecked
import GoSem.Claim
import GoSem.ClaimJoined
import GoSem.ClaimMapViews
import Derived.JoinedTies
import Derived.KernelRfl
namespace Go.Proofs.Ytcddpmiandgkjaa
/- THE CELL 'sum', in the pinned program and in every row, IS THE sha256 OF THE DUMP (.gsa) THAT YtcddpmiandgkjaaProg.lean LOADS. Nothing in Lean hashes anything: it is a label: what it is worth is what the hold of that sum in a sandbox is worth. -/
noncomputable def Try.pinned : Pinned := { name := "ytcddpmiandgkjaa", sum := "5542d38f72d293a2b97592e891f0c28520e3c5fde5ba96589be9454c85cfd16d", checked := Try.checked }
namespace Rows
def none {H : Type} : Left H := { results := [], args := [] }

/-- 'wardenlaw23.StackKeeps': WHATEVER THE INPUT: true; the input reads as it did. -/
def stackKeepsSpec : ChangeSpec := { name := "stackKeeps", fn := fun _ => fun
  | [d1, d2, d3, d4, d5] => { results := [.lit (.bool true)], args := [d1, d2, d3, d4, d5] }
  | _ => none }
def stackKeepsRow : OpenClaim := { program := "ytcddpmiandgkjaa", sum := "5542d38f72d293a2b97592e891f0c28520e3c5fde5ba96589be9454c85cfd16d", func := "warden/wardenlaw23.StackKeeps", spec := "stackKeeps", apart := false }
def StackKeepsSaid : Prop := stackKeepsRow.holds Try.pinned (OpenSpec.ofChange stackKeepsSpec)

/-- ITS FALSE NEIGHBOUR: 'it returns false'. Refute it at one input. -/
def stackKeepsWrong : ChangeSpec := { name := "stackKeeps", fn := fun _ => fun
  | [d1, d2, d3, d4, d5] => { results := [.lit (.bool false)], args := [d1, d2, d3, d4, d5] }
  | _ => none }
def StackKeepsWrongFalsely : Prop := stackKeepsRow.holds Try.pinned (OpenSpec.ofChange stackKeepsWrong)

/-- 'wardenlaw23.StackPlays': WHATEVER THE INPUT: true; the input reads as it did. -/
def stackPlaysSpec : ChangeSpec := { name := "stackPlays", fn := fun _ => fun
  | [d] => { results := [.lit (.bool true)], args := [d] }
  | _ => none }
def stackPlaysRow : OpenClaim := { program := "ytcddpmiandgkjaa", sum := "5542d38f72d293a2b97592e891f0c28520e3c5fde5ba96589be9454c85cfd16d", func := "warden/wardenlaw23.StackPlays", spec := "stackPlays", inPlace := ["maps.clone"], apart := false }
def StackPlaysSaid : Prop := stackPlaysRow.holds Try.pinned (OpenSpec.ofChange stackPlaysSpec)

/-- ITS FALSE NEIGHBOUR: 'it returns false'. Refute it at one input. -/
def stackPlaysWrong : ChangeSpec := { name := "stackPlays", fn := fun _ => fun
  | [d] => { results := [.lit (.bool false)], args := [d] }
  | _ => none }
def StackPlaysWrongFalsely : Prop := stackPlaysRow.holds Try.pinned (OpenSpec.ofChange stackPlaysWrong)

/-- 'wardenlaw23.StackBytes': WHATEVER THE INPUT: true; the input reads as it did. -/
def stackBytesSpec : ChangeSpec := { name := "stackBytes", fn := fun _ => fun
  | [d1, d2, d3] => { results := [.lit (.bool true)], args := [d1, d2, d3] }
  | _ => none }
def stackBytesRow : OpenClaim := { program := "ytcddpmiandgkjaa", sum := "5542d38f72d293a2b97592e891f0c28520e3c5fde5ba96589be9454c85cfd16d", func := "warden/wardenlaw23.StackBytes", spec := "stackBytes", inPlace := ["maps.clone"], apart := false }
def StackBytesSaid : Prop := stackBytesRow.holds Try.pinned (OpenSpec.ofChange stackBytesSpec)

/-- ITS FALSE NEIGHBOUR: 'it returns false'. Refute it at one input. -/
def stackBytesWrong : ChangeSpec := { name := "stackBytes", fn := fun _ => fun
  | [d1, d2, d3] => { results := [.lit (.bool false)], args := [d1, d2, d3] }
  | _ => none }
def StackBytesWrongFalsely : Prop := stackBytesRow.holds Try.pinned (OpenSpec.ofChange stackBytesWrong)

/-- 'wardenlaw23.StackNil': WHATEVER THE INPUT: true; the input reads as it did. -/
def stackNilSpec : ChangeSpec := { name := "stackNil", fn := fun _ => fun
  | [d1, d2] => { results := [.lit (.bool true)], args := [d1, d2] }
  | _ => none }
def stackNilRow : OpenClaim := { program := "ytcddpmiandgkjaa", sum := "5542d38f72d293a2b97592e891f0c28520e3c5fde5ba96589be9454c85cfd16d", func := "warden/wardenlaw23.StackNil", spec := "stackNil", inPlace := ["maps.clone"], apart := false }
def StackNilSaid : Prop := stackNilRow.holds Try.pinned (OpenSpec.ofChange stackNilSpec)

/-- ITS FALSE NEIGHBOUR: 'it returns false'. Refute it at one input. -/
def stackNilWrong : ChangeSpec := { name := "stackNil", fn := fun _ => fun
  | [d1, d2] => { results := [.lit (.bool false)], args := [d1, d2] }
  | _ => none }
def StackNilWrongFalsely : Prop := stackNilRow.holds Try.pinned (OpenSpec.ofChange stackNilWrong)

/-- 'wardenlaw23.StackCopies': WHATEVER THE INPUT: true; the input reads as it did. -/
def stackCopiesSpec : ChangeSpec := { name := "stackCopies", fn := fun _ => fun
  | [d1, d2, d3] => { results := [.lit (.bool true)], args := [d1, d2, d3] }
  | _ => none }
def stackCopiesRow : OpenClaim := { program := "ytcddpmiandgkjaa", sum := "5542d38f72d293a2b97592e891f0c28520e3c5fde5ba96589be9454c85cfd16d", func := "warden/wardenlaw23.StackCopies", spec := "stackCopies", inPlace := ["maps.clone"], apart := false }
def StackCopiesSaid : Prop := stackCopiesRow.holds Try.pinned (OpenSpec.ofChange stackCopiesSpec)

/-- ITS FALSE NEIGHBOUR: 'it returns false'. Refute it at one input. -/
def stackCopiesWrong : ChangeSpec := { name := "stackCopies", fn := fun _ => fun
  | [d1, d2, d3] => { results := [.lit (.bool false)], args := [d1, d2, d3] }
  | _ => none }
def StackCopiesWrongFalsely : Prop := stackCopiesRow.holds Try.pinned (OpenSpec.ofChange stackCopiesWrong)

/-- 'wardenlaw22.ValueNear': WHATEVER THE INPUT: true; the input reads as it did. -/
def valueNearSpec : ChangeSpec := { name := "valueNear", fn := fun _ => fun
  | [d1, d2, d3] => { results := [.lit (.bool true)], args := [d1, d2, d3] }
  | _ => none }
def valueNearRow : OpenClaim := { program := "ytcddpmiandgkjaa", sum := "5542d38f72d293a2b97592e891f0c28520e3c5fde5ba96589be9454c85cfd16d", func := "warden/wardenlaw22.ValueNear", spec := "valueNear", unfollowed := true, recurses := true, apart := false }
def ValueNearSaid : Prop := valueNearRow.holds Try.pinned (OpenSpec.ofChange valueNearSpec)

/-- ITS FALSE NEIGHBOUR: 'it returns false'. Refute it at one input. -/
def valueNearWrong : ChangeSpec := { name := "valueNear", fn := fun _ => fun
  | [d1, d2, d3] => { results := [.lit (.bool false)], args := [d1, d2, d3] }
  | _ => none }
def ValueNearWrongFalsely : Prop := valueNearRow.holds Try.pinned (OpenSpec.ofChange valueNearWrong)

/-- 'wardenlaw22.ValueTells': WHATEVER THE INPUT: true; the input reads as it did. -/
def valueTellsSpec : ChangeSpec := { name := "valueTells", fn := fun _ => fun
  | [d1, d2] => { results := [.lit (.bool true)], args := [d1, d2] }
  | _ => none }
def valueTellsRow : OpenClaim := { program := "ytcddpmiandgkjaa", sum := "5542d38f72d293a2b97592e891f0c28520e3c5fde5ba96589be9454c85cfd16d", func := "warden/wardenlaw22.ValueTells", spec := "valueTells", unfollowed := true, recurses := true, apart := false }
def ValueTellsSaid : Prop := valueTellsRow.holds Try.pinned (OpenSpec.ofChange valueTellsSpec)

/-- ITS FALSE NEIGHBOUR: 'it returns false'. Refute it at one input. -/
def valueTellsWrong : ChangeSpec := { name := "valueTells", fn := fun _ => fun
  | [d1, d2] => { results := [.lit (.bool false)], args := [d1, d2] }
  | _ => none }
def ValueTellsWrongFalsely : Prop := valueTellsRow.holds Try.pinned (OpenSpec.ofChange valueTellsWrong)

/- THE SECOND FORM. 'bulk': how many values and letters a reading holds, each counted each time it is reached (what is shared counts as often as it is met; a slice's spare places count too). A statement '..UptoSaid' is the law's where the arguments, and the package variables that the reading takes, are together of bulk at most 1048576: NARROWER than '..Said'. Prove '..Said' where nothing that the law and all that it calls make is longer than what came in: it says more and counts as full. Else prove '..UptoSaid'. A law counts once. -/
mutual
def uptoBulk {H : Type} : DataW H → Nat
  | .lit (.string bytes) => bytes.length + 1
  | .lit _ => 1
  | .nil => 1
  | .ptr d => uptoBulk d + 1
  | .slice elems spare => uptoBulkAll elems + uptoBulkAll spare + 1
  | .agg parts => uptoBulkAll parts + 1
  | .iface _ d => uptoBulk d + 1
  | .map entries => uptoBulkEntries entries + 1
  | .held _ => 1
def uptoBulkAll {H : Type} : List (DataW H) → Nat
  | [] => 0
  | d :: r => uptoBulk d + uptoBulkAll r
def uptoBulkEntries {H : Type} : List (Lit × DataW H) → Nat
  | [] => 0
  | x :: r => uptoBulkEntry x + uptoBulkEntries r
def uptoBulkEntry {H : Type} : Lit × DataW H → Nat
  | (.string bytes, d) => bytes.length + uptoBulk d + 1
  | (_, d) => uptoBulk d + 1
 end
def uptoSmall : (H : Type) → List (DataW H) → Bool := fun _ ds => decide (uptoBulkAll ds ≤ 1048576)
def OpenSpec.upto (s : _root_.Go.ChangeSpec) : _root_.Go.OpenSpec := { _root_.Go.OpenSpec.ofChange s with cond := some uptoSmall }

/-- 'wardenlaw23.StackKeeps', WHERE WHAT IT READS IS OF BULK AT MOST 1048576: true; the input reads as it did. -/
def stackKeepsUptoRow : OpenClaim := { program := "ytcddpmiandgkjaa", sum := "5542d38f72d293a2b97592e891f0c28520e3c5fde5ba96589be9454c85cfd16d", func := "warden/wardenlaw23.StackKeeps", spec := "stackKeeps", apart := false, narrowed := true }
def StackKeepsUptoSaid : Prop := stackKeepsUptoRow.holds Try.pinned (OpenSpec.upto stackKeepsSpec)

/-- 'wardenlaw23.StackPlays', WHERE WHAT IT READS IS OF BULK AT MOST 1048576: true; the input reads as it did. -/
def stackPlaysUptoRow : OpenClaim := { program := "ytcddpmiandgkjaa", sum := "5542d38f72d293a2b97592e891f0c28520e3c5fde5ba96589be9454c85cfd16d", func := "warden/wardenlaw23.StackPlays", spec := "stackPlays", inPlace := ["maps.clone"], apart := false, narrowed := true }
def StackPlaysUptoSaid : Prop := stackPlaysUptoRow.holds Try.pinned (OpenSpec.upto stackPlaysSpec)

/-- 'wardenlaw23.StackBytes', WHERE WHAT IT READS IS OF BULK AT MOST 1048576: true; the input reads as it did. -/
def stackBytesUptoRow : OpenClaim := { program := "ytcddpmiandgkjaa", sum := "5542d38f72d293a2b97592e891f0c28520e3c5fde5ba96589be9454c85cfd16d", func := "warden/wardenlaw23.StackBytes", spec := "stackBytes", inPlace := ["maps.clone"], apart := false, narrowed := true }
def StackBytesUptoSaid : Prop := stackBytesUptoRow.holds Try.pinned (OpenSpec.upto stackBytesSpec)

/-- 'wardenlaw23.StackNil', WHERE WHAT IT READS IS OF BULK AT MOST 1048576: true; the input reads as it did. -/
def stackNilUptoRow : OpenClaim := { program := "ytcddpmiandgkjaa", sum := "5542d38f72d293a2b97592e891f0c28520e3c5fde5ba96589be9454c85cfd16d", func := "warden/wardenlaw23.StackNil", spec := "stackNil", inPlace := ["maps.clone"], apart := false, narrowed := true }
def StackNilUptoSaid : Prop := stackNilUptoRow.holds Try.pinned (OpenSpec.upto stackNilSpec)

/-- 'wardenlaw23.StackCopies', WHERE WHAT IT READS IS OF BULK AT MOST 1048576: true; the input reads as it did. -/
def stackCopiesUptoRow : OpenClaim := { program := "ytcddpmiandgkjaa", sum := "5542d38f72d293a2b97592e891f0c28520e3c5fde5ba96589be9454c85cfd16d", func := "warden/wardenlaw23.StackCopies", spec := "stackCopies", inPlace := ["maps.clone"], apart := false, narrowed := true }
def StackCopiesUptoSaid : Prop := stackCopiesUptoRow.holds Try.pinned (OpenSpec.upto stackCopiesSpec)

/-- 'wardenlaw22.ValueNear', WHERE WHAT IT READS IS OF BULK AT MOST 1048576: true; the input reads as it did. -/
def valueNearUptoRow : OpenClaim := { program := "ytcddpmiandgkjaa", sum := "5542d38f72d293a2b97592e891f0c28520e3c5fde5ba96589be9454c85cfd16d", func := "warden/wardenlaw22.ValueNear", spec := "valueNear", unfollowed := true, recurses := true, apart := false, narrowed := true }
def ValueNearUptoSaid : Prop := valueNearUptoRow.holds Try.pinned (OpenSpec.upto valueNearSpec)

/-- 'wardenlaw22.ValueTells', WHERE WHAT IT READS IS OF BULK AT MOST 1048576: true; the input reads as it did. -/
def valueTellsUptoRow : OpenClaim := { program := "ytcddpmiandgkjaa", sum := "5542d38f72d293a2b97592e891f0c28520e3c5fde5ba96589be9454c85cfd16d", func := "warden/wardenlaw22.ValueTells", spec := "valueTells", unfollowed := true, recurses := true, apart := false, narrowed := true }
def ValueTellsUptoSaid : Prop := valueTellsUptoRow.holds Try.pinned (OpenSpec.upto valueTellsSpec)

end Rows
end Go.Proofs.Ytcddpmiandgkjaa
