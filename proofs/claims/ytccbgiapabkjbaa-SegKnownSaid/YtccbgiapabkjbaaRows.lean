/-
  No cell of these rows narrows 'for every input' (looked for: loops, veiled, ifaces, maps, wideKeys, modest, calm, conditions, laid).
  DERIVED. THE GIVEN ROWS OF THIS SEAT. 6 by the template 'for every input the law returns true; each argument reads behind the call as it read before'; 0 by the template 'total and deterministic' (their statements: YtccbgiapabkjbaaTotals.lean).
  GIVEN WITH THE SEED: the statements are not yours to turn. If you find one false, say at which input.
  Laid BY PROGRAM, IN A SANDBOX (cutbox-rows.mjs): the forced cells as the released guide's own fill.sh prints them over the translation 69e15cec79598471… (all of the seat's roots in one cut). By AI agents, Wed Nov 11 2026. No macro, syntax, notation, axiom, sorry.
-/
import Derived.Test.YtccbgiapabkjbaaChecked
import GoSem.Claim
import GoSem.ClaimJoined
import GoSem.ClaimMapViews
import Derived.JoinedTies
import Derived.KernelRfl
namespace Go.Proofs.Ytccbgiapabkjbaa
/- THE CELL 'sum', in the pinned program and in every row, IS THE sha256 OF THE DUMP (.gsa) THAT YtccbgiapabkjbaaProg.lean LOADS. Nothing in Lean hashes anything: it is a label: what it is worth is what the hold of that sum in a sandbox is worth. -/
noncomputable def Try.pinned : Pinned := { name := "ytccbgiapabkjbaa", sum := "69e15cec795984715b5c842082839efed5c686381251728773d100546b872a5b", checked := Try.checked }
namespace Rows
def none {H : Type} : Left H := { results := [], args := [] }

/-- 'blockyardlaw10.SegHeads': WHATEVER THE INPUT: true; the input reads as it did. -/
def segHeadsSpec : ChangeSpec := { name := "segHeads", fn := fun _ => fun
  | [d1, d2, d3] => { results := [.lit (.bool true)], args := [d1, d2, d3] }
  | _ => none }
def segHeadsRow : OpenClaim := { program := "ytccbgiapabkjbaa", sum := "69e15cec795984715b5c842082839efed5c686381251728773d100546b872a5b", func := "blockyard/blockyardlaw10.SegHeads", spec := "segHeads", unfollowed := true, recurses := true, apart := false }
def SegHeadsSaid : Prop := segHeadsRow.holds Try.pinned (OpenSpec.ofChange segHeadsSpec)

/-- ITS FALSE NEIGHBOUR: 'it returns false'. Refute it at one input. -/
def segHeadsWrong : ChangeSpec := { name := "segHeads", fn := fun _ => fun
  | [d1, d2, d3] => { results := [.lit (.bool false)], args := [d1, d2, d3] }
  | _ => none }
def SegHeadsWrongFalsely : Prop := segHeadsRow.holds Try.pinned (OpenSpec.ofChange segHeadsWrong)

/-- 'blockyardlaw10.SegBack': WHATEVER THE INPUT: true; the input reads as it did. -/
def segBackSpec : ChangeSpec := { name := "segBack", fn := fun _ => fun
  | [d1, d2, d3, d4, d5] => { results := [.lit (.bool true)], args := [d1, d2, d3, d4, d5] }
  | _ => none }
def segBackRow : OpenClaim := { program := "ytccbgiapabkjbaa", sum := "69e15cec795984715b5c842082839efed5c686381251728773d100546b872a5b", func := "blockyard/blockyardlaw10.SegBack", spec := "segBack", unfollowed := true, recurses := true, apart := false }
def SegBackSaid : Prop := segBackRow.holds Try.pinned (OpenSpec.ofChange segBackSpec)

/-- ITS FALSE NEIGHBOUR: 'it returns false'. Refute it at one input. -/
def segBackWrong : ChangeSpec := { name := "segBack", fn := fun _ => fun
  | [d1, d2, d3, d4, d5] => { results := [.lit (.bool false)], args := [d1, d2, d3, d4, d5] }
  | _ => none }
def SegBackWrongFalsely : Prop := segBackRow.holds Try.pinned (OpenSpec.ofChange segBackWrong)

/-- 'blockyardlaw10.SegAddressed': WHATEVER THE INPUT: true; the input reads as it did. -/
def segAddressedSpec : ChangeSpec := { name := "segAddressed", fn := fun _ => fun
  | [d1, d2, d3, d4, d5] => { results := [.lit (.bool true)], args := [d1, d2, d3, d4, d5] }
  | _ => none }
def segAddressedRow : OpenClaim := { program := "ytccbgiapabkjbaa", sum := "69e15cec795984715b5c842082839efed5c686381251728773d100546b872a5b", func := "blockyard/blockyardlaw10.SegAddressed", spec := "segAddressed", unfollowed := true, recurses := true, apart := false }
def SegAddressedSaid : Prop := segAddressedRow.holds Try.pinned (OpenSpec.ofChange segAddressedSpec)

/-- ITS FALSE NEIGHBOUR: 'it returns false'. Refute it at one input. -/
def segAddressedWrong : ChangeSpec := { name := "segAddressed", fn := fun _ => fun
  | [d1, d2, d3, d4, d5] => { results := [.lit (.bool false)], args := [d1, d2, d3, d4, d5] }
  | _ => none }
def SegAddressedWrongFalsely : Prop := segAddressedRow.holds Try.pinned (OpenSpec.ofChange segAddressedWrong)

/-- 'blockyardlaw10.SegCodes': WHATEVER THE INPUT: true; the input reads as it did. -/
def segCodesSpec : ChangeSpec := { name := "segCodes", fn := fun _ => fun
  | [d1, d2, d3, d4] => { results := [.lit (.bool true)], args := [d1, d2, d3, d4] }
  | _ => none }
def segCodesRow : OpenClaim := { program := "ytccbgiapabkjbaa", sum := "69e15cec795984715b5c842082839efed5c686381251728773d100546b872a5b", func := "blockyard/blockyardlaw10.SegCodes", spec := "segCodes", unfollowed := true, recurses := true, apart := false }
def SegCodesSaid : Prop := segCodesRow.holds Try.pinned (OpenSpec.ofChange segCodesSpec)

/-- ITS FALSE NEIGHBOUR: 'it returns false'. Refute it at one input. -/
def segCodesWrong : ChangeSpec := { name := "segCodes", fn := fun _ => fun
  | [d1, d2, d3, d4] => { results := [.lit (.bool false)], args := [d1, d2, d3, d4] }
  | _ => none }
def SegCodesWrongFalsely : Prop := segCodesRow.holds Try.pinned (OpenSpec.ofChange segCodesWrong)

/-- 'blockyardlaw10.SegLens': WHATEVER THE INPUT: true; the input reads as it did. -/
def segLensSpec : ChangeSpec := { name := "segLens", fn := fun _ => fun
  | [d1, d2, d3] => { results := [.lit (.bool true)], args := [d1, d2, d3] }
  | _ => none }
def segLensRow : OpenClaim := { program := "ytccbgiapabkjbaa", sum := "69e15cec795984715b5c842082839efed5c686381251728773d100546b872a5b", func := "blockyard/blockyardlaw10.SegLens", spec := "segLens", unfollowed := true, recurses := true, apart := false }
def SegLensSaid : Prop := segLensRow.holds Try.pinned (OpenSpec.ofChange segLensSpec)

/-- ITS FALSE NEIGHBOUR: 'it returns false'. Refute it at one input. -/
def segLensWrong : ChangeSpec := { name := "segLens", fn := fun _ => fun
  | [d1, d2, d3] => { results := [.lit (.bool false)], args := [d1, d2, d3] }
  | _ => none }
def SegLensWrongFalsely : Prop := segLensRow.holds Try.pinned (OpenSpec.ofChange segLensWrong)

/-- 'blockyardlaw10.SegKnown': WHATEVER THE INPUT: true; the input reads as it did. -/
def segKnownSpec : ChangeSpec := { name := "segKnown", fn := fun _ => fun
  | [] => { results := [.lit (.bool true)], args := [] }
  | _ => none }
def segKnownRow : OpenClaim := { program := "ytccbgiapabkjbaa", sum := "69e15cec795984715b5c842082839efed5c686381251728773d100546b872a5b", func := "blockyard/blockyardlaw10.SegKnown", spec := "segKnown", inPlace := ["internal/abi.NoEscape", "internal/bytealg.MakeNoZero"], unfollowed := true, recurses := true, apart := false }
def SegKnownSaid : Prop := segKnownRow.holds Try.pinned (OpenSpec.ofChange segKnownSpec)

/-- ITS FALSE NEIGHBOUR: 'it returns false'. Refute it at one input. -/
def segKnownWrong : ChangeSpec := { name := "segKnown", fn := fun _ => fun
  | [] => { results := [.lit (.bool false)], args := [] }
  | _ => none }
def SegKnownWrongFalsely : Prop := segKnownRow.holds Try.pinned (OpenSpec.ofChange segKnownWrong)

/- THE SECOND FORM. 'bulk': how many values and letters a reading holds, each counted each time it is reached (what is shared counts as often as it is met; a slice's spare places count too). A statement '..UptoSaid' is the law's where the arguments, and the package variables that the reading takes, are together of bulk at most 1048576: NARROWER than '..Said'. Prove '..Said' where nothing that the law and all that it calls make is longer than what came in: it says more and counts as full. Else prove '..UptoSaid'. A law counts once. -/
mutual
def uptoBulk {H : Type} : DataW H → Nat
  | .lit (.string bytes) => bytes.length + 1
  | .lit _ => 1
  | .nil => 1
  | .ptr d => uptoBulk d + 1
  | .slice elems spare => uptoBulkAll elems + uptoBulkAll spare + 1
  | .agg parts => uptoBulkAll parts + 1
  | .iface _ d => uptoBulk d + 1
  | .map entries => uptoBulkEntries entries + 1
  | .held _ => 1
def uptoBulkAll {H : Type} : List (DataW H) → Nat
  | [] => 0
  | d :: r => uptoBulk d + uptoBulkAll r
def uptoBulkEntries {H : Type} : List (Lit × DataW H) → Nat
  | [] => 0
  | x :: r => uptoBulkEntry x + uptoBulkEntries r
def uptoBulkEntry {H : Type} : Lit × DataW H → Nat
  | (.string bytes, d) => bytes.length + uptoBulk d + 1
  | (_, d) => uptoBulk d + 1
 end
def uptoSmall : (H : Type) → List (DataW H) → Bool := fun _ ds => decide (uptoBulkAll ds ≤ 1048576)
def OpenSpec.upto (s : _root_.Go.ChangeSpec) : _root_.Go.OpenSpec := { _root_.Go.OpenSpec.ofChange s with cond := some uptoSmall }

/-- 'blockyardlaw10.SegHeads', WHERE WHAT IT READS IS OF BULK AT MOST 1048576: true; the input reads as it did. -/
def segHeadsUptoRow : OpenClaim := { program := "ytccbgiapabkjbaa", sum := "69e15cec795984715b5c842082839efed5c686381251728773d100546b872a5b", func := "blockyard/blockyardlaw10.SegHeads", spec := "segHeads", unfollowed := true, recurses := true, apart := false, narrowed := true }
def SegHeadsUptoSaid : Prop := segHeadsUptoRow.holds Try.pinned (OpenSpec.upto segHeadsSpec)

/-- 'blockyardlaw10.SegBack', WHERE WHAT IT READS IS OF BULK AT MOST 1048576: true; the input reads as it did. -/
def segBackUptoRow : OpenClaim := { program := "ytccbgiapabkjbaa", sum := "69e15cec795984715b5c842082839efed5c686381251728773d100546b872a5b", func := "blockyard/blockyardlaw10.SegBack", spec := "segBack", unfollowed := true, recurses := true, apart := false, narrowed := true }
def SegBackUptoSaid : Prop := segBackUptoRow.holds Try.pinned (OpenSpec.upto segBackSpec)

/-- 'blockyardlaw10.SegAddressed', WHERE WHAT IT READS IS OF BULK AT MOST 1048576: true; the input reads as it did. -/
def segAddressedUptoRow : OpenClaim := { program := "ytccbgiapabkjbaa", sum := "69e15cec795984715b5c842082839efed5c686381251728773d100546b872a5b", func := "blockyard/blockyardlaw10.SegAddressed", spec := "segAddressed", unfollowed := true, recurses := true, apart := false, narrowed := true }
def SegAddressedUptoSaid : Prop := segAddressedUptoRow.holds Try.pinned (OpenSpec.upto segAddressedSpec)

/-- 'blockyardlaw10.SegCodes', WHERE WHAT IT READS IS OF BULK AT MOST 1048576: true; the input reads as it did. -/
def segCodesUptoRow : OpenClaim := { program := "ytccbgiapabkjbaa", sum := "69e15cec795984715b5c842082839efed5c686381251728773d100546b872a5b", func := "blockyard/blockyardlaw10.SegCodes", spec := "segCodes", unfollowed := true, recurses := true, apart := false, narrowed := true }
def SegCodesUptoSaid : Prop := segCodesUptoRow.holds Try.pinned (OpenSpec.upto segCodesSpec)

/-- 'blockyardlaw10.SegLens', WHERE WHAT IT READS IS OF BULK AT MOST 1048576: true; the input reads as it did. -/
def segLensUptoRow : OpenClaim := { program := "ytccbgiapabkjbaa", sum := "69e15cec795984715b5c842082839efed5c686381251728773d100546b872a5b", func := "blockyard/blockyardlaw10.SegLens", spec := "segLens", unfollowed := true, recurses := true, apart := false, narrowed := true }
def SegLensUptoSaid : Prop := segLensUptoRow.holds Try.pinned (OpenSpec.upto segLensSpec)

/-- 'blockyardlaw10.SegKnown', WHERE WHAT IT READS IS OF BULK AT MOST 1048576: true; the input reads as it did. -/
def segKnownUptoRow : OpenClaim := { program := "ytccbgiapabkjbaa", sum := "69e15cec795984715b5c842082839efed5c686381251728773d100546b872a5b", func := "blockyard/blockyardlaw10.SegKnown", spec := "segKnown", inPlace := ["internal/abi.NoEscape", "internal/bytealg.MakeNoZero"], unfollowed := true, recurses := true, apart := false, narrowed := true }
def SegKnownUptoSaid : Prop := segKnownUptoRow.holds Try.pinned (OpenSpec.upto segKnownSpec)

end Rows
end Go.Proofs.Ytccbgiapabkjbaa
