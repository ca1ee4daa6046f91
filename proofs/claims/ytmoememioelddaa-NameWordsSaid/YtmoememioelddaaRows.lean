/-
  No cell of these rows narrows 'for every input' (looked for: loops, veiled, ifaces, maps, wideKeys, modest, calm, conditions, laid).
  DERIVED. THE GIVEN ROWS OF THIS SEAT. 6 by the template 'for every input the law returns true; each argument reads behind the call as it read before'; 0 by the template 'total and deterministic' (their statements: YtmoememioelddaaTotals.lean).
  GIVEN WITH THE SEED: the statements are not yours to turn. If you find one false, say at which input.
  Laid BY PROGRAM, IN A SANDBOX (cutbox-rows.mjs): the forced cells as the released guide's own fill.sh prints them over the translation c0d6b3ecc3326fc4… (all of the seat's roots in one cut). By AI agents, Wed Nov 11 2026. No macro, syntax, notation, axiom, sorry.
-/
import Derived.Test.YtmoememioelddaaChecked
import GoSem.Claim
import GoSem.ClaimJoined
import GoSem.ClaimMapViews
import Derived.JoinedTies
import Derived.KernelRfl
namespace Go.Proofs.Ytmoememioelddaa
/- THE CELL 'sum', in the pinned program and in every row, IS THE sha256 OF THE DUMP (.gsa) THAT YtmoememioelddaaProg.lean LOADS. Nothing in Lean hashes anything: it is a label: what it is worth is what the hold of that sum in a sandbox is worth. -/
noncomputable def Try.pinned : Pinned := { name := "ytmoememioelddaa", sum := "c0d6b3ecc3326fc4259b4481cfc5f7e4dd7b61e50030096eb841a2afbb5de051", checked := Try.checked }
namespace Rows
def none {H : Type} : Left H := { results := [], args := [] }

/-- 'wardenlaw09.NameTells': WHATEVER THE INPUT: true; the input reads as it did. -/
def nameTellsSpec : ChangeSpec := { name := "nameTells", fn := fun _ => fun
  | [d] => { results := [.lit (.bool true)], args := [d] }
  | _ => none }
def nameTellsRow : OpenClaim := { program := "ytmoememioelddaa", sum := "c0d6b3ecc3326fc4259b4481cfc5f7e4dd7b61e50030096eb841a2afbb5de051", func := "warden/wardenlaw09.NameTells", spec := "nameTells", inPlace := ["internal/bytealg.abigen_runtime_cmpstring"], unfollowed := true, recurses := true, apart := false }
def NameTellsSaid : Prop := nameTellsRow.holds Try.pinned (OpenSpec.ofChange nameTellsSpec)

/-- ITS FALSE NEIGHBOUR: 'it returns false'. Refute it at one input. -/
def nameTellsWrong : ChangeSpec := { name := "nameTells", fn := fun _ => fun
  | [d] => { results := [.lit (.bool false)], args := [d] }
  | _ => none }
def NameTellsWrongFalsely : Prop := nameTellsRow.holds Try.pinned (OpenSpec.ofChange nameTellsWrong)

/-- 'wardenlaw09.NameLetters': WHATEVER THE INPUT: true; the input reads as it did. -/
def nameLettersSpec : ChangeSpec := { name := "nameLetters", fn := fun _ => fun
  | [d1, d2, d3] => { results := [.lit (.bool true)], args := [d1, d2, d3] }
  | _ => none }
def nameLettersRow : OpenClaim := { program := "ytmoememioelddaa", sum := "c0d6b3ecc3326fc4259b4481cfc5f7e4dd7b61e50030096eb841a2afbb5de051", func := "warden/wardenlaw09.NameLetters", spec := "nameLetters", inPlace := ["internal/bytealg.abigen_runtime_cmpstring"], unfollowed := true, recurses := true, apart := false }
def NameLettersSaid : Prop := nameLettersRow.holds Try.pinned (OpenSpec.ofChange nameLettersSpec)

/-- ITS FALSE NEIGHBOUR: 'it returns false'. Refute it at one input. -/
def nameLettersWrong : ChangeSpec := { name := "nameLetters", fn := fun _ => fun
  | [d1, d2, d3] => { results := [.lit (.bool false)], args := [d1, d2, d3] }
  | _ => none }
def NameLettersWrongFalsely : Prop := nameLettersRow.holds Try.pinned (OpenSpec.ofChange nameLettersWrong)

/-- 'wardenlaw09.NameOrder': WHATEVER THE INPUT: true; the input reads as it did. -/
def nameOrderSpec : ChangeSpec := { name := "nameOrder", fn := fun _ => fun
  | [d1, d2, d3] => { results := [.lit (.bool true)], args := [d1, d2, d3] }
  | _ => none }
def nameOrderRow : OpenClaim := { program := "ytmoememioelddaa", sum := "c0d6b3ecc3326fc4259b4481cfc5f7e4dd7b61e50030096eb841a2afbb5de051", func := "warden/wardenlaw09.NameOrder", spec := "nameOrder", inPlace := ["internal/bytealg.abigen_runtime_cmpstring"], unfollowed := true, recurses := true, apart := false }
def NameOrderSaid : Prop := nameOrderRow.holds Try.pinned (OpenSpec.ofChange nameOrderSpec)

/-- ITS FALSE NEIGHBOUR: 'it returns false'. Refute it at one input. -/
def nameOrderWrong : ChangeSpec := { name := "nameOrder", fn := fun _ => fun
  | [d1, d2, d3] => { results := [.lit (.bool false)], args := [d1, d2, d3] }
  | _ => none }
def NameOrderWrongFalsely : Prop := nameOrderRow.holds Try.pinned (OpenSpec.ofChange nameOrderWrong)

/-- 'wardenlaw09.NameWords': WHATEVER THE INPUT: true; the input reads as it did. -/
def nameWordsSpec : ChangeSpec := { name := "nameWords", fn := fun _ => fun
  | [d1, d2, d3] => { results := [.lit (.bool true)], args := [d1, d2, d3] }
  | _ => none }
def nameWordsRow : OpenClaim := { program := "ytmoememioelddaa", sum := "c0d6b3ecc3326fc4259b4481cfc5f7e4dd7b61e50030096eb841a2afbb5de051", func := "warden/wardenlaw09.NameWords", spec := "nameWords", inPlace := ["internal/bytealg.abigen_runtime_cmpstring"], unfollowed := true, recurses := true, apart := false }
def NameWordsSaid : Prop := nameWordsRow.holds Try.pinned (OpenSpec.ofChange nameWordsSpec)

/-- ITS FALSE NEIGHBOUR: 'it returns false'. Refute it at one input. -/
def nameWordsWrong : ChangeSpec := { name := "nameWords", fn := fun _ => fun
  | [d1, d2, d3] => { results := [.lit (.bool false)], args := [d1, d2, d3] }
  | _ => none }
def NameWordsWrongFalsely : Prop := nameWordsRow.holds Try.pinned (OpenSpec.ofChange nameWordsWrong)

/-- 'wardenlaw09.NameBegins': WHATEVER THE INPUT: true; the input reads as it did. -/
def nameBeginsSpec : ChangeSpec := { name := "nameBegins", fn := fun _ => fun
  | [d1, d2] => { results := [.lit (.bool true)], args := [d1, d2] }
  | _ => none }
def nameBeginsRow : OpenClaim := { program := "ytmoememioelddaa", sum := "c0d6b3ecc3326fc4259b4481cfc5f7e4dd7b61e50030096eb841a2afbb5de051", func := "warden/wardenlaw09.NameBegins", spec := "nameBegins", inPlace := ["internal/bytealg.abigen_runtime_cmpstring"], unfollowed := true, recurses := true, apart := false }
def NameBeginsSaid : Prop := nameBeginsRow.holds Try.pinned (OpenSpec.ofChange nameBeginsSpec)

/-- ITS FALSE NEIGHBOUR: 'it returns false'. Refute it at one input. -/
def nameBeginsWrong : ChangeSpec := { name := "nameBegins", fn := fun _ => fun
  | [d1, d2] => { results := [.lit (.bool false)], args := [d1, d2] }
  | _ => none }
def NameBeginsWrongFalsely : Prop := nameBeginsRow.holds Try.pinned (OpenSpec.ofChange nameBeginsWrong)

/-- 'wardenlaw09.NameLong': WHATEVER THE INPUT: true; the input reads as it did. -/
def nameLongSpec : ChangeSpec := { name := "nameLong", fn := fun _ => fun
  | [d1, d2] => { results := [.lit (.bool true)], args := [d1, d2] }
  | _ => none }
def nameLongRow : OpenClaim := { program := "ytmoememioelddaa", sum := "c0d6b3ecc3326fc4259b4481cfc5f7e4dd7b61e50030096eb841a2afbb5de051", func := "warden/wardenlaw09.NameLong", spec := "nameLong", inPlace := ["internal/bytealg.abigen_runtime_cmpstring"], unfollowed := true, recurses := true, apart := false }
def NameLongSaid : Prop := nameLongRow.holds Try.pinned (OpenSpec.ofChange nameLongSpec)

/-- ITS FALSE NEIGHBOUR: 'it returns false'. Refute it at one input. -/
def nameLongWrong : ChangeSpec := { name := "nameLong", fn := fun _ => fun
  | [d1, d2] => { results := [.lit (.bool false)], args := [d1, d2] }
  | _ => none }
def NameLongWrongFalsely : Prop := nameLongRow.holds Try.pinned (OpenSpec.ofChange nameLongWrong)

/- THE SECOND FORM. 'bulk': how many values and letters a reading holds, each counted each time it is reached (what is shared counts as often as it is met; a slice's spare places count too). A statement '..UptoSaid' is the law's where the arguments, and the package variables that the reading takes, are together of bulk at most 1048576: NARROWER than '..Said'. Prove '..Said' where nothing that the law and all that it calls make is longer than what came in: it says more and counts as full. Else prove '..UptoSaid'. A law counts once. -/
mutual
def uptoBulk {H : Type} : DataW H → Nat
  | .lit (.string bytes) => bytes.length + 1
  | .lit _ => 1
  | .nil => 1
  | .ptr d => uptoBulk d + 1
  | .slice elems spare => uptoBulkAll elems + uptoBulkAll spare + 1
  | .agg parts => uptoBulkAll parts + 1
  | .iface _ d => uptoBulk d + 1
  | .map entries => uptoBulkEntries entries + 1
  | .held _ => 1
def uptoBulkAll {H : Type} : List (DataW H) → Nat
  | [] => 0
  | d :: r => uptoBulk d + uptoBulkAll r
def uptoBulkEntries {H : Type} : List (Lit × DataW H) → Nat
  | [] => 0
  | x :: r => uptoBulkEntry x + uptoBulkEntries r
def uptoBulkEntry {H : Type} : Lit × DataW H → Nat
  | (.string bytes, d) => bytes.length + uptoBulk d + 1
  | (_, d) => uptoBulk d + 1
 end
def uptoSmall : (H : Type) → List (DataW H) → Bool := fun _ ds => decide (uptoBulkAll ds ≤ 1048576)
def OpenSpec.upto (s : _root_.Go.ChangeSpec) : _root_.Go.OpenSpec := { _root_.Go.OpenSpec.ofChange s with cond := some uptoSmall }

/-- 'wardenlaw09.NameTells', WHERE WHAT IT READS IS OF BULK AT MOST 1048576: true; the input reads as it did. -/
def nameTellsUptoRow : OpenClaim := { program := "ytmoememioelddaa", sum := "c0d6b3ecc3326fc4259b4481cfc5f7e4dd7b61e50030096eb841a2afbb5de051", func := "warden/wardenlaw09.NameTells", spec := "nameTells", inPlace := ["internal/bytealg.abigen_runtime_cmpstring"], unfollowed := true, recurses := true, apart := false, narrowed := true }
def NameTellsUptoSaid : Prop := nameTellsUptoRow.holds Try.pinned (OpenSpec.upto nameTellsSpec)

/-- 'wardenlaw09.NameLetters', WHERE WHAT IT READS IS OF BULK AT MOST 1048576: true; the input reads as it did. -/
def nameLettersUptoRow : OpenClaim := { program := "ytmoememioelddaa", sum := "c0d6b3ecc3326fc4259b4481cfc5f7e4dd7b61e50030096eb841a2afbb5de051", func := "warden/wardenlaw09.NameLetters", spec := "nameLetters", inPlace := ["internal/bytealg.abigen_runtime_cmpstring"], unfollowed := true, recurses := true, apart := false, narrowed := true }
def NameLettersUptoSaid : Prop := nameLettersUptoRow.holds Try.pinned (OpenSpec.upto nameLettersSpec)

/-- 'wardenlaw09.NameOrder', WHERE WHAT IT READS IS OF BULK AT MOST 1048576: true; the input reads as it did. -/
def nameOrderUptoRow : OpenClaim := { program := "ytmoememioelddaa", sum := "c0d6b3ecc3326fc4259b4481cfc5f7e4dd7b61e50030096eb841a2afbb5de051", func := "warden/wardenlaw09.NameOrder", spec := "nameOrder", inPlace := ["internal/bytealg.abigen_runtime_cmpstring"], unfollowed := true, recurses := true, apart := false, narrowed := true }
def NameOrderUptoSaid : Prop := nameOrderUptoRow.holds Try.pinned (OpenSpec.upto nameOrderSpec)

/-- 'wardenlaw09.NameWords', WHERE WHAT IT READS IS OF BULK AT MOST 1048576: true; the input reads as it did. -/
def nameWordsUptoRow : OpenClaim := { program := "ytmoememioelddaa", sum := "c0d6b3ecc3326fc4259b4481cfc5f7e4dd7b61e50030096eb841a2afbb5de051", func := "warden/wardenlaw09.NameWords", spec := "nameWords", inPlace := ["internal/bytealg.abigen_runtime_cmpstring"], unfollowed := true, recurses := true, apart := false, narrowed := true }
def NameWordsUptoSaid : Prop := nameWordsUptoRow.holds Try.pinned (OpenSpec.upto nameWordsSpec)

/-- 'wardenlaw09.NameBegins', WHERE WHAT IT READS IS OF BULK AT MOST 1048576: true; the input reads as it did. -/
def nameBeginsUptoRow : OpenClaim := { program := "ytmoememioelddaa", sum := "c0d6b3ecc3326fc4259b4481cfc5f7e4dd7b61e50030096eb841a2afbb5de051", func := "warden/wardenlaw09.NameBegins", spec := "nameBegins", inPlace := ["internal/bytealg.abigen_runtime_cmpstring"], unfollowed := true, recurses := true, apart := false, narrowed := true }
def NameBeginsUptoSaid : Prop := nameBeginsUptoRow.holds Try.pinned (OpenSpec.upto nameBeginsSpec)

/-- 'wardenlaw09.NameLong', WHERE WHAT IT READS IS OF BULK AT MOST 1048576: true; the input reads as it did. -/
def nameLongUptoRow : OpenClaim := { program := "ytmoememioelddaa", sum := "c0d6b3ecc3326fc4259b4481cfc5f7e4dd7b61e50030096eb841a2afbb5de051", func := "warden/wardenlaw09.NameLong", spec := "nameLong", inPlace := ["internal/bytealg.abigen_runtime_cmpstring"], unfollowed := true, recurses := true, apart := false, narrowed := true }
def NameLongUptoSaid : Prop := nameLongUptoRow.holds Try.pinned (OpenSpec.upto nameLongSpec)

end Rows
end Go.Proofs.Ytmoememioelddaa
