/-
  No cell of these rows narrows 'for every input' (looked for: loops, veiled, ifaces, maps, wideKeys, modest, calm, conditions, laid).
  DERIVED. THE GIVEN ROWS OF THIS SEAT. 5 by the template 'for every input the law returns true; each argument reads behind the call as it read before'; 0 by the template 'total and deterministic' (their statements: YtjfcpajajaigfaaTotals.lean).
  GIVEN WITH THE SEED: the statements are not yours to turn. If you find one false, say at which input.
  Laid BY PROGRAM, IN A SANDBOX (cutbox-rows.mjs): the forced cells as the released guide's own fill.sh prints them over the translation ec18d18394e21cf3… (all of the seat's roots in one cut). By AI agents, Wed Nov 11 2026. No macro, syntax, notation, axiom, sorry.
-/
import Derived.Test.YtjfcpajajaigfaaChecked
import GoSem.Claim
import GoSem.ClaimJoined
import GoSem.ClaimMapViews
import Derived.JoinedTies
import Derived.KernelRfl
namespace Go.Proofs.Ytjfcpajajaigfaa
/- THE CELL 'sum', in the pinned program and in every row, IS THE sha256 OF THE DUMP (.gsa) THAT YtjfcpajajaigfaaProg.lean LOADS. Nothing in Lean hashes anything: it is a label: what it is worth is what the hold of that sum in a sandbox is worth. -/
noncomputable def Try.pinned : Pinned := { name := "ytjfcpajajaigfaa", sum := "ec18d18394e21cf3c2c1219734efaed2c422e8ceeb00b194e80f370215c91f73", checked := Try.checked }
namespace Rows
def none {H : Type} : Left H := { results := [], args := [] }

/-- 'wardenlaw19.ArrayPlays': WHATEVER THE INPUT: true; the input reads as it did. -/
def arrayPlaysSpec : ChangeSpec := { name := "arrayPlays", fn := fun _ => fun
  | [d1, d2, d3] => { results := [.lit (.bool true)], args := [d1, d2, d3] }
  | _ => none }
def arrayPlaysRow : OpenClaim := { program := "ytjfcpajajaigfaa", sum := "ec18d18394e21cf3c2c1219734efaed2c422e8ceeb00b194e80f370215c91f73", func := "warden/wardenlaw19.ArrayPlays", spec := "arrayPlays", apart := false }
def ArrayPlaysSaid : Prop := arrayPlaysRow.holds Try.pinned (OpenSpec.ofChange arrayPlaysSpec)

/-- ITS FALSE NEIGHBOUR: 'it returns false'. Refute it at one input. -/
def arrayPlaysWrong : ChangeSpec := { name := "arrayPlays", fn := fun _ => fun
  | [d1, d2, d3] => { results := [.lit (.bool false)], args := [d1, d2, d3] }
  | _ => none }
def ArrayPlaysWrongFalsely : Prop := arrayPlaysRow.holds Try.pinned (OpenSpec.ofChange arrayPlaysWrong)

/-- 'wardenlaw19.ArrayLast': WHATEVER THE INPUT: true; the input reads as it did. -/
def arrayLastSpec : ChangeSpec := { name := "arrayLast", fn := fun _ => fun
  | [d1, d2, d3, d4, d5] => { results := [.lit (.bool true)], args := [d1, d2, d3, d4, d5] }
  | _ => none }
def arrayLastRow : OpenClaim := { program := "ytjfcpajajaigfaa", sum := "ec18d18394e21cf3c2c1219734efaed2c422e8ceeb00b194e80f370215c91f73", func := "warden/wardenlaw19.ArrayLast", spec := "arrayLast", apart := false }
def ArrayLastSaid : Prop := arrayLastRow.holds Try.pinned (OpenSpec.ofChange arrayLastSpec)

/-- ITS FALSE NEIGHBOUR: 'it returns false'. Refute it at one input. -/
def arrayLastWrong : ChangeSpec := { name := "arrayLast", fn := fun _ => fun
  | [d1, d2, d3, d4, d5] => { results := [.lit (.bool false)], args := [d1, d2, d3, d4, d5] }
  | _ => none }
def ArrayLastWrongFalsely : Prop := arrayLastRow.holds Try.pinned (OpenSpec.ofChange arrayLastWrong)

/-- 'wardenlaw19.ArrayKeys': WHATEVER THE INPUT: true; the input reads as it did. -/
def arrayKeysSpec : ChangeSpec := { name := "arrayKeys", fn := fun _ => fun
  | [d1, d2, d3] => { results := [.lit (.bool true)], args := [d1, d2, d3] }
  | _ => none }
def arrayKeysRow : OpenClaim := { program := "ytjfcpajajaigfaa", sum := "ec18d18394e21cf3c2c1219734efaed2c422e8ceeb00b194e80f370215c91f73", func := "warden/wardenlaw19.ArrayKeys", spec := "arrayKeys", apart := false }
def ArrayKeysSaid : Prop := arrayKeysRow.holds Try.pinned (OpenSpec.ofChange arrayKeysSpec)

/-- ITS FALSE NEIGHBOUR: 'it returns false'. Refute it at one input. -/
def arrayKeysWrong : ChangeSpec := { name := "arrayKeys", fn := fun _ => fun
  | [d1, d2, d3] => { results := [.lit (.bool false)], args := [d1, d2, d3] }
  | _ => none }
def ArrayKeysWrongFalsely : Prop := arrayKeysRow.holds Try.pinned (OpenSpec.ofChange arrayKeysWrong)

/-- 'wardenlaw19.ArrayNil': WHATEVER THE INPUT: true; the input reads as it did. -/
def arrayNilSpec : ChangeSpec := { name := "arrayNil", fn := fun _ => fun
  | [d1, d2, d3] => { results := [.lit (.bool true)], args := [d1, d2, d3] }
  | _ => none }
def arrayNilRow : OpenClaim := { program := "ytjfcpajajaigfaa", sum := "ec18d18394e21cf3c2c1219734efaed2c422e8ceeb00b194e80f370215c91f73", func := "warden/wardenlaw19.ArrayNil", spec := "arrayNil", apart := false }
def ArrayNilSaid : Prop := arrayNilRow.holds Try.pinned (OpenSpec.ofChange arrayNilSpec)

/-- ITS FALSE NEIGHBOUR: 'it returns false'. Refute it at one input. -/
def arrayNilWrong : ChangeSpec := { name := "arrayNil", fn := fun _ => fun
  | [d1, d2, d3] => { results := [.lit (.bool false)], args := [d1, d2, d3] }
  | _ => none }
def ArrayNilWrongFalsely : Prop := arrayNilRow.holds Try.pinned (OpenSpec.ofChange arrayNilWrong)

/-- 'wardenlaw24.RefsOver': WHATEVER THE INPUT: true; the input reads as it did. -/
def refsOverSpec : ChangeSpec := { name := "refsOver", fn := fun _ => fun
  | [d] => { results := [.lit (.bool true)], args := [d] }
  | _ => none }
def refsOverRow : OpenClaim := { program := "ytjfcpajajaigfaa", sum := "ec18d18394e21cf3c2c1219734efaed2c422e8ceeb00b194e80f370215c91f73", func := "warden/wardenlaw24.RefsOver", spec := "refsOver", unfollowed := true, recurses := true, apart := false }
def RefsOverSaid : Prop := refsOverRow.holds Try.pinned (OpenSpec.ofChange refsOverSpec)

/-- ITS FALSE NEIGHBOUR: 'it returns false'. Refute it at one input. -/
def refsOverWrong : ChangeSpec := { name := "refsOver", fn := fun _ => fun
  | [d] => { results := [.lit (.bool false)], args := [d] }
  | _ => none }
def RefsOverWrongFalsely : Prop := refsOverRow.holds Try.pinned (OpenSpec.ofChange refsOverWrong)

/- THE SECOND FORM. 'bulk': how many values and letters a reading holds, each counted each time it is reached (what is shared counts as often as it is met; a slice's spare places count too). A statement '..UptoSaid' is the law's where the arguments, and the package variables that the reading takes, are together of bulk at most 1048576: NARROWER than '..Said'. Prove '..Said' where nothing that the law and all that it calls make is longer than what came in: it says more and counts as full. Else prove '..UptoSaid'. A law counts once. -/
mutual
def uptoBulk {H : Type} : DataW H → Nat
  | .lit (.string bytes) => bytes.length + 1
  | .lit _ => 1
  | .nil => 1
  | .ptr d => uptoBulk d + 1
  | .slice elems spare => uptoBulkAll elems + uptoBulkAll spare + 1
  | .agg parts => uptoBulkAll parts + 1
  | .iface _ d => uptoBulk d + 1
  | .map entries => uptoBulkEntries entries + 1
  | .held _ => 1
def uptoBulkAll {H : Type} : List (DataW H) → Nat
  | [] => 0
  | d :: r => uptoBulk d + uptoBulkAll r
def uptoBulkEntries {H : Type} : List (Lit × DataW H) → Nat
  | [] => 0
  | x :: r => uptoBulkEntry x + uptoBulkEntries r
def uptoBulkEntry {H : Type} : Lit × DataW H → Nat
  | (.string bytes, d) => bytes.length + uptoBulk d + 1
  | (_, d) => uptoBulk d + 1
 end
def uptoSmall : (H : Type) → List (DataW H) → Bool := fun _ ds => decide (uptoBulkAll ds ≤ 1048576)
def OpenSpec.upto (s : _root_.Go.ChangeSpec) : _root_.Go.OpenSpec := { _root_.Go.OpenSpec.ofChange s with cond := some uptoSmall }

/-- 'wardenlaw19.ArrayPlays', WHERE WHAT IT READS IS OF BULK AT MOST 1048576: true; the input reads as it did. -/
def arrayPlaysUptoRow : OpenClaim := { program := "ytjfcpajajaigfaa", sum := "ec18d18394e21cf3c2c1219734efaed2c422e8ceeb00b194e80f370215c91f73", func := "warden/wardenlaw19.ArrayPlays", spec := "arrayPlays", apart := false, narrowed := true }
def ArrayPlaysUptoSaid : Prop := arrayPlaysUptoRow.holds Try.pinned (OpenSpec.upto arrayPlaysSpec)

/-- 'wardenlaw19.ArrayLast', WHERE WHAT IT READS IS OF BULK AT MOST 1048576: true; the input reads as it did. -/
def arrayLastUptoRow : OpenClaim := { program := "ytjfcpajajaigfaa", sum := "ec18d18394e21cf3c2c1219734efaed2c422e8ceeb00b194e80f370215c91f73", func := "warden/wardenlaw19.ArrayLast", spec := "arrayLast", apart := false, narrowed := true }
def ArrayLastUptoSaid : Prop := arrayLastUptoRow.holds Try.pinned (OpenSpec.upto arrayLastSpec)

/-- 'wardenlaw19.ArrayKeys', WHERE WHAT IT READS IS OF BULK AT MOST 1048576: true; the input reads as it did. -/
def arrayKeysUptoRow : OpenClaim := { program := "ytjfcpajajaigfaa", sum := "ec18d18394e21cf3c2c1219734efaed2c422e8ceeb00b194e80f370215c91f73", func := "warden/wardenlaw19.ArrayKeys", spec := "arrayKeys", apart := false, narrowed := true }
def ArrayKeysUptoSaid : Prop := arrayKeysUptoRow.holds Try.pinned (OpenSpec.upto arrayKeysSpec)

/-- 'wardenlaw19.ArrayNil', WHERE WHAT IT READS IS OF BULK AT MOST 1048576: true; the input reads as it did. -/
def arrayNilUptoRow : OpenClaim := { program := "ytjfcpajajaigfaa", sum := "ec18d18394e21cf3c2c1219734efaed2c422e8ceeb00b194e80f370215c91f73", func := "warden/wardenlaw19.ArrayNil", spec := "arrayNil", apart := false, narrowed := true }
def ArrayNilUptoSaid : Prop := arrayNilUptoRow.holds Try.pinned (OpenSpec.upto arrayNilSpec)

/-- 'wardenlaw24.RefsOver', WHERE WHAT IT READS IS OF BULK AT MOST 1048576: true; the input reads as it did. -/
def refsOverUptoRow : OpenClaim := { program := "ytjfcpajajaigfaa", sum := "ec18d18394e21cf3c2c1219734efaed2c422e8ceeb00b194e80f370215c91f73", func := "warden/wardenlaw24.RefsOver", spec := "refsOver", unfollowed := true, recurses := true, apart := false, narrowed := true }
def RefsOverUptoSaid : Prop := refsOverUptoRow.holds Try.pinned (OpenSpec.upto refsOverSpec)

end Rows
end Go.Proofs.Ytjfcpajajaigfaa
