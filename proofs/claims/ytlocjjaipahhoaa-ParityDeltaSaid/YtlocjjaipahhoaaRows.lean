/-
  No cell of these rows narrows 'for every input' (looked for: loops, veiled, ifaces, maps, wideKeys, modest, calm, conditions, laid).
  DERIVED. THE GIVEN ROWS OF THIS SEAT. 6 by the template 'for every input the law returns true; each argument reads behind the call as it read before'; 0 by the template 'total and deterministic' (their statements: YtlocjjaipahhoaaTotals.lean).
  GIVEN WITH THE SEED: the statements are not yours to turn. If you find one false, say at which input.
  Laid BY PROGRAM, IN A SANDBOX (cutbox-rows.mjs): the forced cells as the released guide's own fill.sh prints them over the translation a87f1b92530d0796… (all of the seat's roots in one cut). By AI agents, Wed Nov 11 2026. No macro, syntax, notation, axiom, sorry.
-/
import Derived.Test.YtlocjjaipahhoaaChecked
import GoSem.Claim
import GoSem.ClaimJoined
import GoSem.ClaimMapViews
import Derived.JoinedTies
import Derived.KernelRfl
namespace Go.Proofs.Ytlocjjaipahhoaa
/- THE CELL 'sum', in the pinned program and in every row, IS THE sha256 OF THE DUMP (.gsa) THAT YtlocjjaipahhoaaProg.lean LOADS. Nothing in Lean hashes anything: it is a label: what it is worth is what the hold of that sum in a sandbox is worth. -/
noncomputable def Try.pinned : Pinned := { name := "ytlocjjaipahhoaa", sum := "a87f1b92530d0796af0072ec9cb0faa5ded630d6d1be9601d3af05c99ecbbbf4", checked := Try.checked }
namespace Rows
def none {H : Type} : Left H := { results := [], args := [] }

/-- 'blockyardlaw18.ParitySums': WHATEVER THE INPUT: true; the input reads as it did. -/
def paritySumsSpec : ChangeSpec := { name := "paritySums", fn := fun _ => fun
  | [d] => { results := [.lit (.bool true)], args := [d] }
  | _ => none }
def paritySumsRow : OpenClaim := { program := "ytlocjjaipahhoaa", sum := "a87f1b92530d0796af0072ec9cb0faa5ded630d6d1be9601d3af05c99ecbbbf4", func := "blockyard/blockyardlaw18.ParitySums", spec := "paritySums", inPlace := ["internal/abi.NoEscape", "internal/bytealg.MakeNoZero"], apart := false }
def ParitySumsSaid : Prop := paritySumsRow.holds Try.pinned (OpenSpec.ofChange paritySumsSpec)

/-- ITS FALSE NEIGHBOUR: 'it returns false'. Refute it at one input. -/
def paritySumsWrong : ChangeSpec := { name := "paritySums", fn := fun _ => fun
  | [d] => { results := [.lit (.bool false)], args := [d] }
  | _ => none }
def ParitySumsWrongFalsely : Prop := paritySumsRow.holds Try.pinned (OpenSpec.ofChange paritySumsWrong)

/-- 'blockyardlaw18.ParityBack': WHATEVER THE INPUT: true; the input reads as it did. -/
def parityBackSpec : ChangeSpec := { name := "parityBack", fn := fun _ => fun
  | [d] => { results := [.lit (.bool true)], args := [d] }
  | _ => none }
def parityBackRow : OpenClaim := { program := "ytlocjjaipahhoaa", sum := "a87f1b92530d0796af0072ec9cb0faa5ded630d6d1be9601d3af05c99ecbbbf4", func := "blockyard/blockyardlaw18.ParityBack", spec := "parityBack", inPlace := ["internal/abi.NoEscape", "internal/bytealg.MakeNoZero"], apart := false }
def ParityBackSaid : Prop := parityBackRow.holds Try.pinned (OpenSpec.ofChange parityBackSpec)

/-- ITS FALSE NEIGHBOUR: 'it returns false'. Refute it at one input. -/
def parityBackWrong : ChangeSpec := { name := "parityBack", fn := fun _ => fun
  | [d] => { results := [.lit (.bool false)], args := [d] }
  | _ => none }
def ParityBackWrongFalsely : Prop := parityBackRow.holds Try.pinned (OpenSpec.ofChange parityBackWrong)

/-- 'blockyardlaw18.ParityRows': WHATEVER THE INPUT: true; the input reads as it did. -/
def parityRowsSpec : ChangeSpec := { name := "parityRows", fn := fun _ => fun
  | [d1, d2, d3] => { results := [.lit (.bool true)], args := [d1, d2, d3] }
  | _ => none }
def parityRowsRow : OpenClaim := { program := "ytlocjjaipahhoaa", sum := "a87f1b92530d0796af0072ec9cb0faa5ded630d6d1be9601d3af05c99ecbbbf4", func := "blockyard/blockyardlaw18.ParityRows", spec := "parityRows", inPlace := ["internal/abi.NoEscape", "internal/bytealg.MakeNoZero"], apart := false }
def ParityRowsSaid : Prop := parityRowsRow.holds Try.pinned (OpenSpec.ofChange parityRowsSpec)

/-- ITS FALSE NEIGHBOUR: 'it returns false'. Refute it at one input. -/
def parityRowsWrong : ChangeSpec := { name := "parityRows", fn := fun _ => fun
  | [d1, d2, d3] => { results := [.lit (.bool false)], args := [d1, d2, d3] }
  | _ => none }
def ParityRowsWrongFalsely : Prop := parityRowsRow.holds Try.pinned (OpenSpec.ofChange parityRowsWrong)

/-- 'blockyardlaw18.ParityParts': WHATEVER THE INPUT: true; the input reads as it did. -/
def parityPartsSpec : ChangeSpec := { name := "parityParts", fn := fun _ => fun
  | [d1, d2, d3, d4, d5] => { results := [.lit (.bool true)], args := [d1, d2, d3, d4, d5] }
  | _ => none }
def parityPartsRow : OpenClaim := { program := "ytlocjjaipahhoaa", sum := "a87f1b92530d0796af0072ec9cb0faa5ded630d6d1be9601d3af05c99ecbbbf4", func := "blockyard/blockyardlaw18.ParityParts", spec := "parityParts", inPlace := ["internal/abi.NoEscape", "internal/bytealg.MakeNoZero"], apart := false }
def ParityPartsSaid : Prop := parityPartsRow.holds Try.pinned (OpenSpec.ofChange parityPartsSpec)

/-- ITS FALSE NEIGHBOUR: 'it returns false'. Refute it at one input. -/
def parityPartsWrong : ChangeSpec := { name := "parityParts", fn := fun _ => fun
  | [d1, d2, d3, d4, d5] => { results := [.lit (.bool false)], args := [d1, d2, d3, d4, d5] }
  | _ => none }
def ParityPartsWrongFalsely : Prop := parityPartsRow.holds Try.pinned (OpenSpec.ofChange parityPartsWrong)

/-- 'blockyardlaw18.ParityDelta': WHATEVER THE INPUT: true; the input reads as it did. -/
def parityDeltaSpec : ChangeSpec := { name := "parityDelta", fn := fun _ => fun
  | [d1, d2, d3] => { results := [.lit (.bool true)], args := [d1, d2, d3] }
  | _ => none }
def parityDeltaRow : OpenClaim := { program := "ytlocjjaipahhoaa", sum := "a87f1b92530d0796af0072ec9cb0faa5ded630d6d1be9601d3af05c99ecbbbf4", func := "blockyard/blockyardlaw18.ParityDelta", spec := "parityDelta", inPlace := ["internal/abi.NoEscape", "internal/bytealg.MakeNoZero"], apart := false }
def ParityDeltaSaid : Prop := parityDeltaRow.holds Try.pinned (OpenSpec.ofChange parityDeltaSpec)

/-- ITS FALSE NEIGHBOUR: 'it returns false'. Refute it at one input. -/
def parityDeltaWrong : ChangeSpec := { name := "parityDelta", fn := fun _ => fun
  | [d1, d2, d3] => { results := [.lit (.bool false)], args := [d1, d2, d3] }
  | _ => none }
def ParityDeltaWrongFalsely : Prop := parityDeltaRow.holds Try.pinned (OpenSpec.ofChange parityDeltaWrong)

/-- 'blockyardlaw18.ParityKnown': WHATEVER THE INPUT: true; the input reads as it did. -/
def parityKnownSpec : ChangeSpec := { name := "parityKnown", fn := fun _ => fun
  | [] => { results := [.lit (.bool true)], args := [] }
  | _ => none }
def parityKnownRow : OpenClaim := { program := "ytlocjjaipahhoaa", sum := "a87f1b92530d0796af0072ec9cb0faa5ded630d6d1be9601d3af05c99ecbbbf4", func := "blockyard/blockyardlaw18.ParityKnown", spec := "parityKnown", inPlace := ["internal/abi.NoEscape", "internal/bytealg.MakeNoZero"], apart := false }
def ParityKnownSaid : Prop := parityKnownRow.holds Try.pinned (OpenSpec.ofChange parityKnownSpec)

/-- ITS FALSE NEIGHBOUR: 'it returns false'. Refute it at one input. -/
def parityKnownWrong : ChangeSpec := { name := "parityKnown", fn := fun _ => fun
  | [] => { results := [.lit (.bool false)], args := [] }
  | _ => none }
def ParityKnownWrongFalsely : Prop := parityKnownRow.holds Try.pinned (OpenSpec.ofChange parityKnownWrong)

/- THE SECOND FORM. 'bulk': how many values and letters a reading holds, each counted each time it is reached (what is shared counts as often as it is met; a slice's spare places count too). A statement '..UptoSaid' is the law's where the arguments, and the package variables that the reading takes, are together of bulk at most 1048576: NARROWER than '..Said'. Prove '..Said' where nothing that the law and all that it calls make is longer than what came in: it says more and counts as full. Else prove '..UptoSaid'. A law counts once. -/
mutual
def uptoBulk {H : Type} : DataW H → Nat
  | .lit (.string bytes) => bytes.length + 1
  | .lit _ => 1
  | .nil => 1
  | .ptr d => uptoBulk d + 1
  | .slice elems spare => uptoBulkAll elems + uptoBulkAll spare + 1
  | .agg parts => uptoBulkAll parts + 1
  | .iface _ d => uptoBulk d + 1
  | .map entries => uptoBulkEntries entries + 1
  | .held _ => 1
def uptoBulkAll {H : Type} : List (DataW H) → Nat
  | [] => 0
  | d :: r => uptoBulk d + uptoBulkAll r
def uptoBulkEntries {H : Type} : List (Lit × DataW H) → Nat
  | [] => 0
  | x :: r => uptoBulkEntry x + uptoBulkEntries r
def uptoBulkEntry {H : Type} : Lit × DataW H → Nat
  | (.string bytes, d) => bytes.length + uptoBulk d + 1
  | (_, d) => uptoBulk d + 1
 end
def uptoSmall : (H : Type) → List (DataW H) → Bool := fun _ ds => decide (uptoBulkAll ds ≤ 1048576)
def OpenSpec.upto (s : _root_.Go.ChangeSpec) : _root_.Go.OpenSpec := { _root_.Go.OpenSpec.ofChange s with cond := some uptoSmall }

/-- 'blockyardlaw18.ParitySums', WHERE WHAT IT READS IS OF BULK AT MOST 1048576: true; the input reads as it did. -/
def paritySumsUptoRow : OpenClaim := { program := "ytlocjjaipahhoaa", sum := "a87f1b92530d0796af0072ec9cb0faa5ded630d6d1be9601d3af05c99ecbbbf4", func := "blockyard/blockyardlaw18.ParitySums", spec := "paritySums", inPlace := ["internal/abi.NoEscape", "internal/bytealg.MakeNoZero"], apart := false, narrowed := true }
def ParitySumsUptoSaid : Prop := paritySumsUptoRow.holds Try.pinned (OpenSpec.upto paritySumsSpec)

/-- 'blockyardlaw18.ParityBack', WHERE WHAT IT READS IS OF BULK AT MOST 1048576: true; the input reads as it did. -/
def parityBackUptoRow : OpenClaim := { program := "ytlocjjaipahhoaa", sum := "a87f1b92530d0796af0072ec9cb0faa5ded630d6d1be9601d3af05c99ecbbbf4", func := "blockyard/blockyardlaw18.ParityBack", spec := "parityBack", inPlace := ["internal/abi.NoEscape", "internal/bytealg.MakeNoZero"], apart := false, narrowed := true }
def ParityBackUptoSaid : Prop := parityBackUptoRow.holds Try.pinned (OpenSpec.upto parityBackSpec)

/-- 'blockyardlaw18.ParityRows', WHERE WHAT IT READS IS OF BULK AT MOST 1048576: true; the input reads as it did. -/
def parityRowsUptoRow : OpenClaim := { program := "ytlocjjaipahhoaa", sum := "a87f1b92530d0796af0072ec9cb0faa5ded630d6d1be9601d3af05c99ecbbbf4", func := "blockyard/blockyardlaw18.ParityRows", spec := "parityRows", inPlace := ["internal/abi.NoEscape", "internal/bytealg.MakeNoZero"], apart := false, narrowed := true }
def ParityRowsUptoSaid : Prop := parityRowsUptoRow.holds Try.pinned (OpenSpec.upto parityRowsSpec)

/-- 'blockyardlaw18.ParityParts', WHERE WHAT IT READS IS OF BULK AT MOST 1048576: true; the input reads as it did. -/
def parityPartsUptoRow : OpenClaim := { program := "ytlocjjaipahhoaa", sum := "a87f1b92530d0796af0072ec9cb0faa5ded630d6d1be9601d3af05c99ecbbbf4", func := "blockyard/blockyardlaw18.ParityParts", spec := "parityParts", inPlace := ["internal/abi.NoEscape", "internal/bytealg.MakeNoZero"], apart := false, narrowed := true }
def ParityPartsUptoSaid : Prop := parityPartsUptoRow.holds Try.pinned (OpenSpec.upto parityPartsSpec)

/-- 'blockyardlaw18.ParityDelta', WHERE WHAT IT READS IS OF BULK AT MOST 1048576: true; the input reads as it did. -/
def parityDeltaUptoRow : OpenClaim := { program := "ytlocjjaipahhoaa", sum := "a87f1b92530d0796af0072ec9cb0faa5ded630d6d1be9601d3af05c99ecbbbf4", func := "blockyard/blockyardlaw18.ParityDelta", spec := "parityDelta", inPlace := ["internal/abi.NoEscape", "internal/bytealg.MakeNoZero"], apart := false, narrowed := true }
def ParityDeltaUptoSaid : Prop := parityDeltaUptoRow.holds Try.pinned (OpenSpec.upto parityDeltaSpec)

/-- 'blockyardlaw18.ParityKnown', WHERE WHAT IT READS IS OF BULK AT MOST 1048576: true; the input reads as it did. -/
def parityKnownUptoRow : OpenClaim := { program := "ytlocjjaipahhoaa", sum := "a87f1b92530d0796af0072ec9cb0faa5ded630d6d1be9601d3af05c99ecbbbf4", func := "blockyard/blockyardlaw18.ParityKnown", spec := "parityKnown", inPlace := ["internal/abi.NoEscape", "internal/bytealg.MakeNoZero"], apart := false, narrowed := true }
def ParityKnownUptoSaid : Prop := parityKnownUptoRow.holds Try.pinned (OpenSpec.upto parityKnownSpec)

end Rows
end Go.Proofs.Ytlocjjaipahhoaa
