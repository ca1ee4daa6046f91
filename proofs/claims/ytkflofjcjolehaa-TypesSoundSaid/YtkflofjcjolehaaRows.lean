/-
  No cell of these rows narrows 'for every input' (looked for: loops, veiled, ifaces, maps, wideKeys, modest, calm, conditions, laid).
  DERIVED. THE GIVEN ROWS OF THIS SEAT. 7 by the template 'for every input the law returns true; each argument reads behind the call as it read before'; 0 by the template 'total and deterministic' (their statements: YtkflofjcjolehaaTotals.lean).
  GIVEN WITH THE SEED: the statements are not yours to turn. If you find one false, say at which input.
  Laid BY PROGRAM, IN A SANDBOX (cutbox-rows.mjs): the forced cells as the released guide's own fill.sh prints them over the translation d9c4008acf8c72b1… (all of the seat's roots in one cut). By AI agents, Wed Nov 11 2026. No macro, syntax, notation, axiom, sorry.
-/
import Derived.Test.YtkflofjcjolehaaChecked
import GoSem.Claim
import GoSem.ClaimJoined
import GoSem.ClaimMapViews
import Derived.JoinedTies
import Derived.KernelRfl
namespace Go.Proofs.Ytkflofjcjolehaa
/- THE CELL 'sum', in the pinned program and in every row, IS THE sha256 OF THE DUMP (.gsa) THAT YtkflofjcjolehaaProg.lean LOADS. Nothing in Lean hashes anything: it is a label: what it is worth is what the hold of that sum in a sandbox is worth. -/
noncomputable def Try.pinned : Pinned := { name := "ytkflofjcjolehaa", sum := "d9c4008acf8c72b1a375d2b3c84932fddfa332ea94f7794792337972389b93f7", checked := Try.checked }
namespace Rows
def none {H : Type} : Left H := { results := [], args := [] }

/-- 'wardenlaw10.TypesBytes': WHATEVER THE INPUT: true; the input reads as it did. -/
def typesBytesSpec : ChangeSpec := { name := "typesBytes", fn := fun _ => fun
  | [d1, d2, d3] => { results := [.lit (.bool true)], args := [d1, d2, d3] }
  | _ => none }
def typesBytesRow : OpenClaim := { program := "ytkflofjcjolehaa", sum := "d9c4008acf8c72b1a375d2b3c84932fddfa332ea94f7794792337972389b93f7", func := "warden/wardenlaw10.TypesBytes", spec := "typesBytes", unfollowed := true, recurses := true, apart := false }
def TypesBytesSaid : Prop := typesBytesRow.holds Try.pinned (OpenSpec.ofChange typesBytesSpec)

/-- ITS FALSE NEIGHBOUR: 'it returns false'. Refute it at one input. -/
def typesBytesWrong : ChangeSpec := { name := "typesBytes", fn := fun _ => fun
  | [d1, d2, d3] => { results := [.lit (.bool false)], args := [d1, d2, d3] }
  | _ => none }
def TypesBytesWrongFalsely : Prop := typesBytesRow.holds Try.pinned (OpenSpec.ofChange typesBytesWrong)

/-- 'wardenlaw10.TypesChecks': WHATEVER THE INPUT: true; the input reads as it did. -/
def typesChecksSpec : ChangeSpec := { name := "typesChecks", fn := fun _ => fun
  | [d] => { results := [.lit (.bool true)], args := [d] }
  | _ => none }
def typesChecksRow : OpenClaim := { program := "ytkflofjcjolehaa", sum := "d9c4008acf8c72b1a375d2b3c84932fddfa332ea94f7794792337972389b93f7", func := "warden/wardenlaw10.TypesChecks", spec := "typesChecks", unfollowed := true, recurses := true, apart := false }
def TypesChecksSaid : Prop := typesChecksRow.holds Try.pinned (OpenSpec.ofChange typesChecksSpec)

/-- ITS FALSE NEIGHBOUR: 'it returns false'. Refute it at one input. -/
def typesChecksWrong : ChangeSpec := { name := "typesChecks", fn := fun _ => fun
  | [d] => { results := [.lit (.bool false)], args := [d] }
  | _ => none }
def TypesChecksWrongFalsely : Prop := typesChecksRow.holds Try.pinned (OpenSpec.ofChange typesChecksWrong)

/-- 'wardenlaw10.TypesBack': WHATEVER THE INPUT: true; the input reads as it did. -/
def typesBackSpec : ChangeSpec := { name := "typesBack", fn := fun _ => fun
  | [d1, d2, d3] => { results := [.lit (.bool true)], args := [d1, d2, d3] }
  | _ => none }
def typesBackRow : OpenClaim := { program := "ytkflofjcjolehaa", sum := "d9c4008acf8c72b1a375d2b3c84932fddfa332ea94f7794792337972389b93f7", func := "warden/wardenlaw10.TypesBack", spec := "typesBack", unfollowed := true, recurses := true, apart := false }
def TypesBackSaid : Prop := typesBackRow.holds Try.pinned (OpenSpec.ofChange typesBackSpec)

/-- ITS FALSE NEIGHBOUR: 'it returns false'. Refute it at one input. -/
def typesBackWrong : ChangeSpec := { name := "typesBack", fn := fun _ => fun
  | [d1, d2, d3] => { results := [.lit (.bool false)], args := [d1, d2, d3] }
  | _ => none }
def TypesBackWrongFalsely : Prop := typesBackRow.holds Try.pinned (OpenSpec.ofChange typesBackWrong)

/-- 'wardenlaw10.TypesLong': WHATEVER THE INPUT: true; the input reads as it did. -/
def typesLongSpec : ChangeSpec := { name := "typesLong", fn := fun _ => fun
  | [d] => { results := [.lit (.bool true)], args := [d] }
  | _ => none }
def typesLongRow : OpenClaim := { program := "ytkflofjcjolehaa", sum := "d9c4008acf8c72b1a375d2b3c84932fddfa332ea94f7794792337972389b93f7", func := "warden/wardenlaw10.TypesLong", spec := "typesLong", unfollowed := true, recurses := true, apart := false }
def TypesLongSaid : Prop := typesLongRow.holds Try.pinned (OpenSpec.ofChange typesLongSpec)

/-- ITS FALSE NEIGHBOUR: 'it returns false'. Refute it at one input. -/
def typesLongWrong : ChangeSpec := { name := "typesLong", fn := fun _ => fun
  | [d] => { results := [.lit (.bool false)], args := [d] }
  | _ => none }
def TypesLongWrongFalsely : Prop := typesLongRow.holds Try.pinned (OpenSpec.ofChange typesLongWrong)

/-- 'wardenlaw10.TypesPlains': WHATEVER THE INPUT: true; the input reads as it did. -/
def typesPlainsSpec : ChangeSpec := { name := "typesPlains", fn := fun _ => fun
  | [d1, d2, d3, d4] => { results := [.lit (.bool true)], args := [d1, d2, d3, d4] }
  | _ => none }
def typesPlainsRow : OpenClaim := { program := "ytkflofjcjolehaa", sum := "d9c4008acf8c72b1a375d2b3c84932fddfa332ea94f7794792337972389b93f7", func := "warden/wardenlaw10.TypesPlains", spec := "typesPlains", unfollowed := true, recurses := true, apart := false }
def TypesPlainsSaid : Prop := typesPlainsRow.holds Try.pinned (OpenSpec.ofChange typesPlainsSpec)

/-- ITS FALSE NEIGHBOUR: 'it returns false'. Refute it at one input. -/
def typesPlainsWrong : ChangeSpec := { name := "typesPlains", fn := fun _ => fun
  | [d1, d2, d3, d4] => { results := [.lit (.bool false)], args := [d1, d2, d3, d4] }
  | _ => none }
def TypesPlainsWrongFalsely : Prop := typesPlainsRow.holds Try.pinned (OpenSpec.ofChange typesPlainsWrong)

/-- 'wardenlaw10.TypesFirst': WHATEVER THE INPUT: true; the input reads as it did. -/
def typesFirstSpec : ChangeSpec := { name := "typesFirst", fn := fun _ => fun
  | [d1, d2] => { results := [.lit (.bool true)], args := [d1, d2] }
  | _ => none }
def typesFirstRow : OpenClaim := { program := "ytkflofjcjolehaa", sum := "d9c4008acf8c72b1a375d2b3c84932fddfa332ea94f7794792337972389b93f7", func := "warden/wardenlaw10.TypesFirst", spec := "typesFirst", unfollowed := true, recurses := true, apart := false }
def TypesFirstSaid : Prop := typesFirstRow.holds Try.pinned (OpenSpec.ofChange typesFirstSpec)

/-- ITS FALSE NEIGHBOUR: 'it returns false'. Refute it at one input. -/
def typesFirstWrong : ChangeSpec := { name := "typesFirst", fn := fun _ => fun
  | [d1, d2] => { results := [.lit (.bool false)], args := [d1, d2] }
  | _ => none }
def TypesFirstWrongFalsely : Prop := typesFirstRow.holds Try.pinned (OpenSpec.ofChange typesFirstWrong)

/-- 'wardenlaw10.TypesSound': WHATEVER THE INPUT: true; the input reads as it did. -/
def typesSoundSpec : ChangeSpec := { name := "typesSound", fn := fun _ => fun
  | [d] => { results := [.lit (.bool true)], args := [d] }
  | _ => none }
def typesSoundRow : OpenClaim := { program := "ytkflofjcjolehaa", sum := "d9c4008acf8c72b1a375d2b3c84932fddfa332ea94f7794792337972389b93f7", func := "warden/wardenlaw10.TypesSound", spec := "typesSound", unfollowed := true, recurses := true, apart := false }
def TypesSoundSaid : Prop := typesSoundRow.holds Try.pinned (OpenSpec.ofChange typesSoundSpec)

/-- ITS FALSE NEIGHBOUR: 'it returns false'. Refute it at one input. -/
def typesSoundWrong : ChangeSpec := { name := "typesSound", fn := fun _ => fun
  | [d] => { results := [.lit (.bool false)], args := [d] }
  | _ => none }
def TypesSoundWrongFalsely : Prop := typesSoundRow.holds Try.pinned (OpenSpec.ofChange typesSoundWrong)

/- THE SECOND FORM. 'bulk': how many values and letters a reading holds, each counted each time it is reached (what is shared counts as often as it is met; a slice's spare places count too). A statement '..UptoSaid' is the law's where the arguments, and the package variables that the reading takes, are together of bulk at most 1048576: NARROWER than '..Said'. Prove '..Said' where nothing that the law and all that it calls make is longer than what came in: it says more and counts as full. Else prove '..UptoSaid'. A law counts once. -/
mutual
def uptoBulk {H : Type} : DataW H → Nat
  | .lit (.string bytes) => bytes.length + 1
  | .lit _ => 1
  | .nil => 1
  | .ptr d => uptoBulk d + 1
  | .slice elems spare => uptoBulkAll elems + uptoBulkAll spare + 1
  | .agg parts => uptoBulkAll parts + 1
  | .iface _ d => uptoBulk d + 1
  | .map entries => uptoBulkEntries entries + 1
  | .held _ => 1
def uptoBulkAll {H : Type} : List (DataW H) → Nat
  | [] => 0
  | d :: r => uptoBulk d + uptoBulkAll r
def uptoBulkEntries {H : Type} : List (Lit × DataW H) → Nat
  | [] => 0
  | x :: r => uptoBulkEntry x + uptoBulkEntries r
def uptoBulkEntry {H : Type} : Lit × DataW H → Nat
  | (.string bytes, d) => bytes.length + uptoBulk d + 1
  | (_, d) => uptoBulk d + 1
 end
def uptoSmall : (H : Type) → List (DataW H) → Bool := fun _ ds => decide (uptoBulkAll ds ≤ 1048576)
def OpenSpec.upto (s : _root_.Go.ChangeSpec) : _root_.Go.OpenSpec := { _root_.Go.OpenSpec.ofChange s with cond := some uptoSmall }

/-- 'wardenlaw10.TypesBytes', WHERE WHAT IT READS IS OF BULK AT MOST 1048576: true; the input reads as it did. -/
def typesBytesUptoRow : OpenClaim := { program := "ytkflofjcjolehaa", sum := "d9c4008acf8c72b1a375d2b3c84932fddfa332ea94f7794792337972389b93f7", func := "warden/wardenlaw10.TypesBytes", spec := "typesBytes", unfollowed := true, recurses := true, apart := false, narrowed := true }
def TypesBytesUptoSaid : Prop := typesBytesUptoRow.holds Try.pinned (OpenSpec.upto typesBytesSpec)

/-- 'wardenlaw10.TypesChecks', WHERE WHAT IT READS IS OF BULK AT MOST 1048576: true; the input reads as it did. -/
def typesChecksUptoRow : OpenClaim := { program := "ytkflofjcjolehaa", sum := "d9c4008acf8c72b1a375d2b3c84932fddfa332ea94f7794792337972389b93f7", func := "warden/wardenlaw10.TypesChecks", spec := "typesChecks", unfollowed := true, recurses := true, apart := false, narrowed := true }
def TypesChecksUptoSaid : Prop := typesChecksUptoRow.holds Try.pinned (OpenSpec.upto typesChecksSpec)

/-- 'wardenlaw10.TypesBack', WHERE WHAT IT READS IS OF BULK AT MOST 1048576: true; the input reads as it did. -/
def typesBackUptoRow : OpenClaim := { program := "ytkflofjcjolehaa", sum := "d9c4008acf8c72b1a375d2b3c84932fddfa332ea94f7794792337972389b93f7", func := "warden/wardenlaw10.TypesBack", spec := "typesBack", unfollowed := true, recurses := true, apart := false, narrowed := true }
def TypesBackUptoSaid : Prop := typesBackUptoRow.holds Try.pinned (OpenSpec.upto typesBackSpec)

/-- 'wardenlaw10.TypesLong', WHERE WHAT IT READS IS OF BULK AT MOST 1048576: true; the input reads as it did. -/
def typesLongUptoRow : OpenClaim := { program := "ytkflofjcjolehaa", sum := "d9c4008acf8c72b1a375d2b3c84932fddfa332ea94f7794792337972389b93f7", func := "warden/wardenlaw10.TypesLong", spec := "typesLong", unfollowed := true, recurses := true, apart := false, narrowed := true }
def TypesLongUptoSaid : Prop := typesLongUptoRow.holds Try.pinned (OpenSpec.upto typesLongSpec)

/-- 'wardenlaw10.TypesPlains', WHERE WHAT IT READS IS OF BULK AT MOST 1048576: true; the input reads as it did. -/
def typesPlainsUptoRow : OpenClaim := { program := "ytkflofjcjolehaa", sum := "d9c4008acf8c72b1a375d2b3c84932fddfa332ea94f7794792337972389b93f7", func := "warden/wardenlaw10.TypesPlains", spec := "typesPlains", unfollowed := true, recurses := true, apart := false, narrowed := true }
def TypesPlainsUptoSaid : Prop := typesPlainsUptoRow.holds Try.pinned (OpenSpec.upto typesPlainsSpec)

/-- 'wardenlaw10.TypesFirst', WHERE WHAT IT READS IS OF BULK AT MOST 1048576: true; the input reads as it did. -/
def typesFirstUptoRow : OpenClaim := { program := "ytkflofjcjolehaa", sum := "d9c4008acf8c72b1a375d2b3c84932fddfa332ea94f7794792337972389b93f7", func := "warden/wardenlaw10.TypesFirst", spec := "typesFirst", unfollowed := true, recurses := true, apart := false, narrowed := true }
def TypesFirstUptoSaid : Prop := typesFirstUptoRow.holds Try.pinned (OpenSpec.upto typesFirstSpec)

/-- 'wardenlaw10.TypesSound', WHERE WHAT IT READS IS OF BULK AT MOST 1048576: true; the input reads as it did. -/
def typesSoundUptoRow : OpenClaim := { program := "ytkflofjcjolehaa", sum := "d9c4008acf8c72b1a375d2b3c84932fddfa332ea94f7794792337972389b93f7", func := "warden/wardenlaw10.TypesSound", spec := "typesSound", unfollowed := true, recurses := true, apart := false, narrowed := true }
def TypesSoundUptoSaid : Prop := typesSoundUptoRow.holds Try.pinned (OpenSpec.upto typesSoundSpec)

end Rows
end Go.Proofs.Ytkflofjcjolehaa
