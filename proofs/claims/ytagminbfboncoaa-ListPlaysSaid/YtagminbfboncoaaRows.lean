/-
  No cell of these rows narrows 'for every input' (looked for: loops, veiled, ifaces, maps, wideKeys, modest, calm, conditions, laid).
  DERIVED. THE GIVEN ROWS OF THIS SEAT. 4 by the template 'for every input the law returns true; each argument reads behind the call as it read before'; 0 by the template 'total and deterministic' (their statements: YtagminbfboncoaaTotals.lean).
  GIVEN WITH THE SEED: the statements are not yours to turn. If you find one false, say at which input.
  Laid BY PROGRAM, IN A SANDBOX (cutbox-rows.mjs): the forced cells as the released guide's own fill.sh prints them over the translation 3a3e9559ed0622c3… (all of the seat's roots in one cut). By AI agents, Wed Nov 11 2026. No macro, syntax, notation, axiom, sorry.
-/
import Derived.Test.YtagminbfboncoaaChecked
import GoSem.Claim
import GoSem.ClaimJoined
import GoSem.ClaimMapViews
import Derived.JoinedTies
import Derived.KernelRfl
namespace Go.Proofs.Ytagminbfboncoaa
/- THE CELL 'sum', in the pinned program and in every row, IS THE sha256 OF THE DUMP (.gsa) THAT YtagminbfboncoaaProg.lean LOADS. Nothing in Lean hashes anything: it is a label: what it is worth is what the hold of that sum in a sandbox is worth. -/
noncomputable def Try.pinned : Pinned := { name := "ytagminbfboncoaa", sum := "3a3e9559ed0622c34bdf86237e58cc10ae786d32b33631da7368cadcfd4d6c10", checked := Try.checked }
namespace Rows
def none {H : Type} : Left H := { results := [], args := [] }

/-- 'wardenlaw15.ListTurned': WHATEVER THE INPUT: true; the input reads as it did. -/
def listTurnedSpec : ChangeSpec := { name := "listTurned", fn := fun _ => fun
  | [d1, d2, d3] => { results := [.lit (.bool true)], args := [d1, d2, d3] }
  | _ => none }
def listTurnedRow : OpenClaim := { program := "ytagminbfboncoaa", sum := "3a3e9559ed0622c34bdf86237e58cc10ae786d32b33631da7368cadcfd4d6c10", func := "warden/wardenlaw15.ListTurned", spec := "listTurned", plainKeys := false, apart := false }
def ListTurnedSaid : Prop := listTurnedRow.holds Try.pinned (OpenSpec.ofChange listTurnedSpec)

/-- ITS FALSE NEIGHBOUR: 'it returns false'. Refute it at one input. -/
def listTurnedWrong : ChangeSpec := { name := "listTurned", fn := fun _ => fun
  | [d1, d2, d3] => { results := [.lit (.bool false)], args := [d1, d2, d3] }
  | _ => none }
def ListTurnedWrongFalsely : Prop := listTurnedRow.holds Try.pinned (OpenSpec.ofChange listTurnedWrong)

/-- 'wardenlaw15.ListPlays': WHATEVER THE INPUT: true; the input reads as it did. -/
def listPlaysSpec : ChangeSpec := { name := "listPlays", fn := fun _ => fun
  | [d] => { results := [.lit (.bool true)], args := [d] }
  | _ => none }
def listPlaysRow : OpenClaim := { program := "ytagminbfboncoaa", sum := "3a3e9559ed0622c34bdf86237e58cc10ae786d32b33631da7368cadcfd4d6c10", func := "warden/wardenlaw15.ListPlays", spec := "listPlays", unfollowed := true, recurses := true, plainKeys := false, apart := false }
def ListPlaysSaid : Prop := listPlaysRow.holds Try.pinned (OpenSpec.ofChange listPlaysSpec)

/-- ITS FALSE NEIGHBOUR: 'it returns false'. Refute it at one input. -/
def listPlaysWrong : ChangeSpec := { name := "listPlays", fn := fun _ => fun
  | [d] => { results := [.lit (.bool false)], args := [d] }
  | _ => none }
def ListPlaysWrongFalsely : Prop := listPlaysRow.holds Try.pinned (OpenSpec.ofChange listPlaysWrong)

/-- 'wardenlaw15.ListRemoves': WHATEVER THE INPUT: true; the input reads as it did. -/
def listRemovesSpec : ChangeSpec := { name := "listRemoves", fn := fun _ => fun
  | [d1, d2] => { results := [.lit (.bool true)], args := [d1, d2] }
  | _ => none }
def listRemovesRow : OpenClaim := { program := "ytagminbfboncoaa", sum := "3a3e9559ed0622c34bdf86237e58cc10ae786d32b33631da7368cadcfd4d6c10", func := "warden/wardenlaw15.ListRemoves", spec := "listRemoves", unfollowed := true, recurses := true, plainKeys := false, apart := false }
def ListRemovesSaid : Prop := listRemovesRow.holds Try.pinned (OpenSpec.ofChange listRemovesSpec)

/-- ITS FALSE NEIGHBOUR: 'it returns false'. Refute it at one input. -/
def listRemovesWrong : ChangeSpec := { name := "listRemoves", fn := fun _ => fun
  | [d1, d2] => { results := [.lit (.bool false)], args := [d1, d2] }
  | _ => none }
def ListRemovesWrongFalsely : Prop := listRemovesRow.holds Try.pinned (OpenSpec.ofChange listRemovesWrong)

/-- 'wardenlaw15.ListNone': WHATEVER THE INPUT: true; the input reads as it did. -/
def listNoneSpec : ChangeSpec := { name := "listNone", fn := fun _ => fun
  | [d1, d2] => { results := [.lit (.bool true)], args := [d1, d2] }
  | _ => none }
def listNoneRow : OpenClaim := { program := "ytagminbfboncoaa", sum := "3a3e9559ed0622c34bdf86237e58cc10ae786d32b33631da7368cadcfd4d6c10", func := "warden/wardenlaw15.ListNone", spec := "listNone", unfollowed := true, recurses := true, plainKeys := false, apart := false }
def ListNoneSaid : Prop := listNoneRow.holds Try.pinned (OpenSpec.ofChange listNoneSpec)

/-- ITS FALSE NEIGHBOUR: 'it returns false'. Refute it at one input. -/
def listNoneWrong : ChangeSpec := { name := "listNone", fn := fun _ => fun
  | [d1, d2] => { results := [.lit (.bool false)], args := [d1, d2] }
  | _ => none }
def ListNoneWrongFalsely : Prop := listNoneRow.holds Try.pinned (OpenSpec.ofChange listNoneWrong)

/- THE SECOND FORM. 'bulk': how many values and letters a reading holds, each counted each time it is reached (what is shared counts as often as it is met; a slice's spare places count too). A statement '..UptoSaid' is the law's where the arguments, and the package variables that the reading takes, are together of bulk at most 1048576: NARROWER than '..Said'. Prove '..Said' where nothing that the law and all that it calls make is longer than what came in: it says more and counts as full. Else prove '..UptoSaid'. A law counts once. -/
mutual
def uptoBulk {H : Type} : DataW H → Nat
  | .lit (.string bytes) => bytes.length + 1
  | .lit _ => 1
  | .nil => 1
  | .ptr d => uptoBulk d + 1
  | .slice elems spare => uptoBulkAll elems + uptoBulkAll spare + 1
  | .agg parts => uptoBulkAll parts + 1
  | .iface _ d => uptoBulk d + 1
  | .map entries => uptoBulkEntries entries + 1
  | .held _ => 1
def uptoBulkAll {H : Type} : List (DataW H) → Nat
  | [] => 0
  | d :: r => uptoBulk d + uptoBulkAll r
def uptoBulkEntries {H : Type} : List (Lit × DataW H) → Nat
  | [] => 0
  | x :: r => uptoBulkEntry x + uptoBulkEntries r
def uptoBulkEntry {H : Type} : Lit × DataW H → Nat
  | (.string bytes, d) => bytes.length + uptoBulk d + 1
  | (_, d) => uptoBulk d + 1
 end
def uptoSmall : (H : Type) → List (DataW H) → Bool := fun _ ds => decide (uptoBulkAll ds ≤ 1048576)
def OpenSpec.upto (s : _root_.Go.ChangeSpec) : _root_.Go.OpenSpec := { _root_.Go.OpenSpec.ofChange s with cond := some uptoSmall }

/-- 'wardenlaw15.ListTurned', WHERE WHAT IT READS IS OF BULK AT MOST 1048576: true; the input reads as it did. -/
def listTurnedUptoRow : OpenClaim := { program := "ytagminbfboncoaa", sum := "3a3e9559ed0622c34bdf86237e58cc10ae786d32b33631da7368cadcfd4d6c10", func := "warden/wardenlaw15.ListTurned", spec := "listTurned", plainKeys := false, apart := false, narrowed := true }
def ListTurnedUptoSaid : Prop := listTurnedUptoRow.holds Try.pinned (OpenSpec.upto listTurnedSpec)

/-- 'wardenlaw15.ListPlays', WHERE WHAT IT READS IS OF BULK AT MOST 1048576: true; the input reads as it did. -/
def listPlaysUptoRow : OpenClaim := { program := "ytagminbfboncoaa", sum := "3a3e9559ed0622c34bdf86237e58cc10ae786d32b33631da7368cadcfd4d6c10", func := "warden/wardenlaw15.ListPlays", spec := "listPlays", unfollowed := true, recurses := true, plainKeys := false, apart := false, narrowed := true }
def ListPlaysUptoSaid : Prop := listPlaysUptoRow.holds Try.pinned (OpenSpec.upto listPlaysSpec)

/-- 'wardenlaw15.ListRemoves', WHERE WHAT IT READS IS OF BULK AT MOST 1048576: true; the input reads as it did. -/
def listRemovesUptoRow : OpenClaim := { program := "ytagminbfboncoaa", sum := "3a3e9559ed0622c34bdf86237e58cc10ae786d32b33631da7368cadcfd4d6c10", func := "warden/wardenlaw15.ListRemoves", spec := "listRemoves", unfollowed := true, recurses := true, plainKeys := false, apart := false, narrowed := true }
def ListRemovesUptoSaid : Prop := listRemovesUptoRow.holds Try.pinned (OpenSpec.upto listRemovesSpec)

/-- 'wardenlaw15.ListNone', WHERE WHAT IT READS IS OF BULK AT MOST 1048576: true; the input reads as it did. -/
def listNoneUptoRow : OpenClaim := { program := "ytagminbfboncoaa", sum := "3a3e9559ed0622c34bdf86237e58cc10ae786d32b33631da7368cadcfd4d6c10", func := "warden/wardenlaw15.ListNone", spec := "listNone", unfollowed := true, recurses := true, plainKeys := false, apart := false, narrowed := true }
def ListNoneUptoSaid : Prop := listNoneUptoRow.holds Try.pinned (OpenSpec.upto listNoneSpec)

end Rows
end Go.Proofs.Ytagminbfboncoaa
