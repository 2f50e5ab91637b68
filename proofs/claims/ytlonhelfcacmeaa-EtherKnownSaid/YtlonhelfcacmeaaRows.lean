/-
  No cell of these rows narrows 'for every input' (looked for: loops, veiled, ifaces, maps, wideKeys, modest, calm, conditions, laid).
  DERIVED. THE GIVEN ROWS OF THIS SEAT. 5 by the template 'for every input the law returns true; each argument reads behind the call as it read before'; 0 by the template 'total and deterministic' (their statements: YtlonhelfcacmeaaTotals.lean).
  GIVEN WITH THE SEED: the statements are not yours to turn. If you find one false, say at which input.
  Laid BY PROGRAM, IN A SANDBOX (cutbox-rows.mjs): the forced cells as the released guide's own fill.sh prints them over the translation 85d2fdd8a58722fd… (all of the seat's roots in one cut). By AI agents, Wed Nov 11 2026. No macro, syntax, notation, axiom, sorry.
-/
import Derived.Test.YtlonhelfcacmeaaChecked
import GoSem.Claim
import GoSem.ClaimJoined
import GoSem.ClaimMapViews
import Derived.JoinedTies
import Derived.KernelRfl
namespace Go.Proofs.Ytlonhelfcacmeaa
/- THE CELL 'sum', in the pinned program and in every row, IS THE sha256 OF THE DUMP (.gsa) THAT YtlonhelfcacmeaaProg.lean LOADS. Nothing in Lean hashes anything: it is a label: what it is worth is what the hold of that sum in a sandbox is worth. -/
noncomputable def Try.pinned : Pinned := { name := "ytlonhelfcacmeaa", sum := "85d2fdd8a58722fd0a039caf1bb7a29b237b1325cf3c60526d5f76f96b9b9fd1", checked := Try.checked }
namespace Rows
def none {H : Type} : Left H := { results := [], args := [] }

/-- 'blockyardlaw06.EtherReads': WHATEVER THE INPUT: true; the input reads as it did. -/
def etherReadsSpec : ChangeSpec := { name := "etherReads", fn := fun _ => fun
  | [d] => { results := [.lit (.bool true)], args := [d] }
  | _ => none }
def etherReadsRow : OpenClaim := { program := "ytlonhelfcacmeaa", sum := "85d2fdd8a58722fd0a039caf1bb7a29b237b1325cf3c60526d5f76f96b9b9fd1", func := "blockyard/blockyardlaw06.EtherReads", spec := "etherReads", apart := false }
def EtherReadsSaid : Prop := etherReadsRow.holds Try.pinned (OpenSpec.ofChange etherReadsSpec)

/-- ITS FALSE NEIGHBOUR: 'it returns false'. Refute it at one input. -/
def etherReadsWrong : ChangeSpec := { name := "etherReads", fn := fun _ => fun
  | [d] => { results := [.lit (.bool false)], args := [d] }
  | _ => none }
def EtherReadsWrongFalsely : Prop := etherReadsRow.holds Try.pinned (OpenSpec.ofChange etherReadsWrong)

/-- 'blockyardlaw06.EtherBack': WHATEVER THE INPUT: true; the input reads as it did. -/
def etherBackSpec : ChangeSpec := { name := "etherBack", fn := fun _ => fun
  | [d1, d2, d3] => { results := [.lit (.bool true)], args := [d1, d2, d3] }
  | _ => none }
def etherBackRow : OpenClaim := { program := "ytlonhelfcacmeaa", sum := "85d2fdd8a58722fd0a039caf1bb7a29b237b1325cf3c60526d5f76f96b9b9fd1", func := "blockyard/blockyardlaw06.EtherBack", spec := "etherBack", apart := false }
def EtherBackSaid : Prop := etherBackRow.holds Try.pinned (OpenSpec.ofChange etherBackSpec)

/-- ITS FALSE NEIGHBOUR: 'it returns false'. Refute it at one input. -/
def etherBackWrong : ChangeSpec := { name := "etherBack", fn := fun _ => fun
  | [d1, d2, d3] => { results := [.lit (.bool false)], args := [d1, d2, d3] }
  | _ => none }
def EtherBackWrongFalsely : Prop := etherBackRow.holds Try.pinned (OpenSpec.ofChange etherBackWrong)

/-- 'blockyardlaw06.EtherWrites': WHATEVER THE INPUT: true; the input reads as it did. -/
def etherWritesSpec : ChangeSpec := { name := "etherWrites", fn := fun _ => fun
  | [d1, d2] => { results := [.lit (.bool true)], args := [d1, d2] }
  | _ => none }
def etherWritesRow : OpenClaim := { program := "ytlonhelfcacmeaa", sum := "85d2fdd8a58722fd0a039caf1bb7a29b237b1325cf3c60526d5f76f96b9b9fd1", func := "blockyard/blockyardlaw06.EtherWrites", spec := "etherWrites", apart := false }
def EtherWritesSaid : Prop := etherWritesRow.holds Try.pinned (OpenSpec.ofChange etherWritesSpec)

/-- ITS FALSE NEIGHBOUR: 'it returns false'. Refute it at one input. -/
def etherWritesWrong : ChangeSpec := { name := "etherWrites", fn := fun _ => fun
  | [d1, d2] => { results := [.lit (.bool false)], args := [d1, d2] }
  | _ => none }
def EtherWritesWrongFalsely : Prop := etherWritesRow.holds Try.pinned (OpenSpec.ofChange etherWritesWrong)

/-- 'blockyardlaw06.EtherFor': WHATEVER THE INPUT: true; the input reads as it did. -/
def etherForSpec : ChangeSpec := { name := "etherFor", fn := fun _ => fun
  | [d1, d2, d3] => { results := [.lit (.bool true)], args := [d1, d2, d3] }
  | _ => none }
def etherForRow : OpenClaim := { program := "ytlonhelfcacmeaa", sum := "85d2fdd8a58722fd0a039caf1bb7a29b237b1325cf3c60526d5f76f96b9b9fd1", func := "blockyard/blockyardlaw06.EtherFor", spec := "etherFor", apart := false }
def EtherForSaid : Prop := etherForRow.holds Try.pinned (OpenSpec.ofChange etherForSpec)

/-- ITS FALSE NEIGHBOUR: 'it returns false'. Refute it at one input. -/
def etherForWrong : ChangeSpec := { name := "etherFor", fn := fun _ => fun
  | [d1, d2, d3] => { results := [.lit (.bool false)], args := [d1, d2, d3] }
  | _ => none }
def EtherForWrongFalsely : Prop := etherForRow.holds Try.pinned (OpenSpec.ofChange etherForWrong)

/-- 'blockyardlaw06.EtherKnown': WHATEVER THE INPUT: true; the input reads as it did. -/
def etherKnownSpec : ChangeSpec := { name := "etherKnown", fn := fun _ => fun
  | [] => { results := [.lit (.bool true)], args := [] }
  | _ => none }
def etherKnownRow : OpenClaim := { program := "ytlonhelfcacmeaa", sum := "85d2fdd8a58722fd0a039caf1bb7a29b237b1325cf3c60526d5f76f96b9b9fd1", func := "blockyard/blockyardlaw06.EtherKnown", spec := "etherKnown", inPlace := ["internal/abi.NoEscape", "internal/bytealg.MakeNoZero"], apart := false }
def EtherKnownSaid : Prop := etherKnownRow.holds Try.pinned (OpenSpec.ofChange etherKnownSpec)

/-- ITS FALSE NEIGHBOUR: 'it returns false'. Refute it at one input. -/
def etherKnownWrong : ChangeSpec := { name := "etherKnown", fn := fun _ => fun
  | [] => { results := [.lit (.bool false)], args := [] }
  | _ => none }
def EtherKnownWrongFalsely : Prop := etherKnownRow.holds Try.pinned (OpenSpec.ofChange etherKnownWrong)

/- THE SECOND FORM. 'bulk': how many values and letters a reading holds, each counted each time it is reached (what is shared counts as often as it is met; a slice's spare places count too). A statement '..UptoSaid' is the law's where the arguments, and the package variables that the reading takes, are together of bulk at most 1048576: NARROWER than '..Said'. Prove '..Said' where nothing that the law and all that it calls make is longer than what came in: it says more and counts as full. Else prove '..UptoSaid'. A law counts once. -/
mutual
def uptoBulk {H : Type} : DataW H → Nat
  | .lit (.string bytes) => bytes.length + 1
  | .lit _ => 1
  | .nil => 1
  | .ptr d => uptoBulk d + 1
  | .slice elems spare => uptoBulkAll elems + uptoBulkAll spare + 1
  | .agg parts => uptoBulkAll parts + 1
  | .iface _ d => uptoBulk d + 1
  | .map entries => uptoBulkEntries entries + 1
  | .held _ => 1
def uptoBulkAll {H : Type} : List (DataW H) → Nat
  | [] => 0
  | d :: r => uptoBulk d + uptoBulkAll r
def uptoBulkEntries {H : Type} : List (Lit × DataW H) → Nat
  | [] => 0
  | x :: r => uptoBulkEntry x + uptoBulkEntries r
def uptoBulkEntry {H : Type} : Lit × DataW H → Nat
  | (.string bytes, d) => bytes.length + uptoBulk d + 1
  | (_, d) => uptoBulk d + 1
 end
def uptoSmall : (H : Type) → List (DataW H) → Bool := fun _ ds => decide (uptoBulkAll ds ≤ 1048576)
def OpenSpec.upto (s : _root_.Go.ChangeSpec) : _root_.Go.OpenSpec := { _root_.Go.OpenSpec.ofChange s with cond := some uptoSmall }

/-- 'blockyardlaw06.EtherReads', WHERE WHAT IT READS IS OF BULK AT MOST 1048576: true; the input reads as it did. -/
def etherReadsUptoRow : OpenClaim := { program := "ytlonhelfcacmeaa", sum := "85d2fdd8a58722fd0a039caf1bb7a29b237b1325cf3c60526d5f76f96b9b9fd1", func := "blockyard/blockyardlaw06.EtherReads", spec := "etherReads", apart := false, narrowed := true }
def EtherReadsUptoSaid : Prop := etherReadsUptoRow.holds Try.pinned (OpenSpec.upto etherReadsSpec)

/-- 'blockyardlaw06.EtherBack', WHERE WHAT IT READS IS OF BULK AT MOST 1048576: true; the input reads as it did. -/
def etherBackUptoRow : OpenClaim := { program := "ytlonhelfcacmeaa", sum := "85d2fdd8a58722fd0a039caf1bb7a29b237b1325cf3c60526d5f76f96b9b9fd1", func := "blockyard/blockyardlaw06.EtherBack", spec := "etherBack", apart := false, narrowed := true }
def EtherBackUptoSaid : Prop := etherBackUptoRow.holds Try.pinned (OpenSpec.upto etherBackSpec)

/-- 'blockyardlaw06.EtherWrites', WHERE WHAT IT READS IS OF BULK AT MOST 1048576: true; the input reads as it did. -/
def etherWritesUptoRow : OpenClaim := { program := "ytlonhelfcacmeaa", sum := "85d2fdd8a58722fd0a039caf1bb7a29b237b1325cf3c60526d5f76f96b9b9fd1", func := "blockyard/blockyardlaw06.EtherWrites", spec := "etherWrites", apart := false, narrowed := true }
def EtherWritesUptoSaid : Prop := etherWritesUptoRow.holds Try.pinned (OpenSpec.upto etherWritesSpec)

/-- 'blockyardlaw06.EtherFor', WHERE WHAT IT READS IS OF BULK AT MOST 1048576: true; the input reads as it did. -/
def etherForUptoRow : OpenClaim := { program := "ytlonhelfcacmeaa", sum := "85d2fdd8a58722fd0a039caf1bb7a29b237b1325cf3c60526d5f76f96b9b9fd1", func := "blockyard/blockyardlaw06.EtherFor", spec := "etherFor", apart := false, narrowed := true }
def EtherForUptoSaid : Prop := etherForUptoRow.holds Try.pinned (OpenSpec.upto etherForSpec)

/-- 'blockyardlaw06.EtherKnown', WHERE WHAT IT READS IS OF BULK AT MOST 1048576: true; the input reads as it did. -/
def etherKnownUptoRow : OpenClaim := { program := "ytlonhelfcacmeaa", sum := "85d2fdd8a58722fd0a039caf1bb7a29b237b1325cf3c60526d5f76f96b9b9fd1", func := "blockyard/blockyardlaw06.EtherKnown", spec := "etherKnown", inPlace := ["internal/abi.NoEscape", "internal/bytealg.MakeNoZero"], apart := false, narrowed := true }
def EtherKnownUptoSaid : Prop := etherKnownUptoRow.holds Try.pinned (OpenSpec.upto etherKnownSpec)

end Rows
end Go.Proofs.Ytlonhelfcacmeaa
