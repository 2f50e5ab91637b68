/-
  No cell of these rows narrows 'for every input' (looked for: loops, veiled, ifaces, maps, wideKeys, modest, calm, conditions, laid).
  DERIVED. THE GIVEN ROWS OF THIS SEAT. 8 by the template 'for every input the law returns true; each argument reads behind the call as it read before'; 0 by the template 'total and deterministic' (their statements: YtccbohjcbhibkaaTotals.lean).
  GIVEN WITH THE SEED: the statements are not yours to turn. If you find one false, say at which input.
  Laid BY PROGRAM, IN A SANDBOX (cutbox-rows.mjs): the forced cells as the released guide's own fill.sh prints them over the translation 5bd221ca239c995c… (all of the seat's roots in one cut). By AI agents, Wed Nov 11 2026. No macro, syntax, notation, axiom, sorry.
-/
import Derived.Test.YtccbohjcbhibkaaChecked
import GoSem.Claim
import GoSem.ClaimJoined
import GoSem.ClaimMapViews
import Derived.JoinedTies
import Derived.KernelRfl
namespace Go.Proofs.Ytccbohjcbhibkaa
/- THE CELL 'sum', in the pinned program and in every row, IS THE sha256 OF THE DUMP (.gsa) THAT YtccbohjcbhibkaaProg.lean LOADS. Nothing in Lean hashes anything: it is a label: what it is worth is what the hold of that sum in a sandbox is worth. -/
noncomputable def Try.pinned : Pinned := { name := "ytccbohjcbhibkaa", sum := "5bd221ca239c995c8ea6b05658cd4d7db1ae4df4656fc6c3a47615d6623dab26", checked := Try.checked }
namespace Rows
def none {H : Type} : Left H := { results := [], args := [] }

/-- 'blockyardlaw21.JournalOnce': WHATEVER THE INPUT: true; the input reads as it did. -/
def journalOnceSpec : ChangeSpec := { name := "journalOnce", fn := fun _ => fun
  | [d1, d2] => { results := [.lit (.bool true)], args := [d1, d2] }
  | _ => none }
def journalOnceRow : OpenClaim := { program := "ytccbohjcbhibkaa", sum := "5bd221ca239c995c8ea6b05658cd4d7db1ae4df4656fc6c3a47615d6623dab26", func := "blockyard/blockyardlaw21.JournalOnce", spec := "journalOnce", inPlace := ["internal/abi.NoEscape", "internal/bytealg.MakeNoZero"], unfollowed := true, recurses := true, apart := false }
def JournalOnceSaid : Prop := journalOnceRow.holds Try.pinned (OpenSpec.ofChange journalOnceSpec)

/-- ITS FALSE NEIGHBOUR: 'it returns false'. Refute it at one input. -/
def journalOnceWrong : ChangeSpec := { name := "journalOnce", fn := fun _ => fun
  | [d1, d2] => { results := [.lit (.bool false)], args := [d1, d2] }
  | _ => none }
def JournalOnceWrongFalsely : Prop := journalOnceRow.holds Try.pinned (OpenSpec.ofChange journalOnceWrong)

/-- 'blockyardlaw21.JournalSectors': WHATEVER THE INPUT: true; the input reads as it did. -/
def journalSectorsSpec : ChangeSpec := { name := "journalSectors", fn := fun _ => fun
  | [d1, d2] => { results := [.lit (.bool true)], args := [d1, d2] }
  | _ => none }
def journalSectorsRow : OpenClaim := { program := "ytccbohjcbhibkaa", sum := "5bd221ca239c995c8ea6b05658cd4d7db1ae4df4656fc6c3a47615d6623dab26", func := "blockyard/blockyardlaw21.JournalSectors", spec := "journalSectors", inPlace := ["internal/abi.NoEscape", "internal/bytealg.MakeNoZero"], unfollowed := true, recurses := true, apart := false }
def JournalSectorsSaid : Prop := journalSectorsRow.holds Try.pinned (OpenSpec.ofChange journalSectorsSpec)

/-- ITS FALSE NEIGHBOUR: 'it returns false'. Refute it at one input. -/
def journalSectorsWrong : ChangeSpec := { name := "journalSectors", fn := fun _ => fun
  | [d1, d2] => { results := [.lit (.bool false)], args := [d1, d2] }
  | _ => none }
def JournalSectorsWrongFalsely : Prop := journalSectorsRow.holds Try.pinned (OpenSpec.ofChange journalSectorsWrong)

/-- 'blockyardlaw21.JournalReads': WHATEVER THE INPUT: true; the input reads as it did. -/
def journalReadsSpec : ChangeSpec := { name := "journalReads", fn := fun _ => fun
  | [d1, d2, d3, d4, d5] => { results := [.lit (.bool true)], args := [d1, d2, d3, d4, d5] }
  | _ => none }
def journalReadsRow : OpenClaim := { program := "ytccbohjcbhibkaa", sum := "5bd221ca239c995c8ea6b05658cd4d7db1ae4df4656fc6c3a47615d6623dab26", func := "blockyard/blockyardlaw21.JournalReads", spec := "journalReads", inPlace := ["internal/abi.NoEscape", "internal/bytealg.MakeNoZero"], unfollowed := true, recurses := true, apart := false }
def JournalReadsSaid : Prop := journalReadsRow.holds Try.pinned (OpenSpec.ofChange journalReadsSpec)

/-- ITS FALSE NEIGHBOUR: 'it returns false'. Refute it at one input. -/
def journalReadsWrong : ChangeSpec := { name := "journalReads", fn := fun _ => fun
  | [d1, d2, d3, d4, d5] => { results := [.lit (.bool false)], args := [d1, d2, d3, d4, d5] }
  | _ => none }
def JournalReadsWrongFalsely : Prop := journalReadsRow.holds Try.pinned (OpenSpec.ofChange journalReadsWrong)

/-- 'blockyardlaw21.JournalBack': WHATEVER THE INPUT: true; the input reads as it did. -/
def journalBackSpec : ChangeSpec := { name := "journalBack", fn := fun _ => fun
  | [d1, d2] => { results := [.lit (.bool true)], args := [d1, d2] }
  | _ => none }
def journalBackRow : OpenClaim := { program := "ytccbohjcbhibkaa", sum := "5bd221ca239c995c8ea6b05658cd4d7db1ae4df4656fc6c3a47615d6623dab26", func := "blockyard/blockyardlaw21.JournalBack", spec := "journalBack", inPlace := ["internal/abi.NoEscape", "internal/bytealg.MakeNoZero"], unfollowed := true, recurses := true, apart := false }
def JournalBackSaid : Prop := journalBackRow.holds Try.pinned (OpenSpec.ofChange journalBackSpec)

/-- ITS FALSE NEIGHBOUR: 'it returns false'. Refute it at one input. -/
def journalBackWrong : ChangeSpec := { name := "journalBack", fn := fun _ => fun
  | [d1, d2] => { results := [.lit (.bool false)], args := [d1, d2] }
  | _ => none }
def JournalBackWrongFalsely : Prop := journalBackRow.holds Try.pinned (OpenSpec.ofChange journalBackWrong)

/-- 'blockyardlaw21.JournalTorn': WHATEVER THE INPUT: true; the input reads as it did. -/
def journalTornSpec : ChangeSpec := { name := "journalTorn", fn := fun _ => fun
  | [d1, d2, d3] => { results := [.lit (.bool true)], args := [d1, d2, d3] }
  | _ => none }
def journalTornRow : OpenClaim := { program := "ytccbohjcbhibkaa", sum := "5bd221ca239c995c8ea6b05658cd4d7db1ae4df4656fc6c3a47615d6623dab26", func := "blockyard/blockyardlaw21.JournalTorn", spec := "journalTorn", inPlace := ["internal/abi.NoEscape", "internal/bytealg.MakeNoZero"], unfollowed := true, recurses := true, apart := false }
def JournalTornSaid : Prop := journalTornRow.holds Try.pinned (OpenSpec.ofChange journalTornSpec)

/-- ITS FALSE NEIGHBOUR: 'it returns false'. Refute it at one input. -/
def journalTornWrong : ChangeSpec := { name := "journalTorn", fn := fun _ => fun
  | [d1, d2, d3] => { results := [.lit (.bool false)], args := [d1, d2, d3] }
  | _ => none }
def JournalTornWrongFalsely : Prop := journalTornRow.holds Try.pinned (OpenSpec.ofChange journalTornWrong)

/-- 'blockyardlaw21.JournalPlaces': WHATEVER THE INPUT: true; the input reads as it did. -/
def journalPlacesSpec : ChangeSpec := { name := "journalPlaces", fn := fun _ => fun
  | [d1, d2, d3] => { results := [.lit (.bool true)], args := [d1, d2, d3] }
  | _ => none }
def journalPlacesRow : OpenClaim := { program := "ytccbohjcbhibkaa", sum := "5bd221ca239c995c8ea6b05658cd4d7db1ae4df4656fc6c3a47615d6623dab26", func := "blockyard/blockyardlaw21.JournalPlaces", spec := "journalPlaces", inPlace := ["internal/abi.NoEscape", "internal/bytealg.MakeNoZero"], unfollowed := true, recurses := true, apart := false }
def JournalPlacesSaid : Prop := journalPlacesRow.holds Try.pinned (OpenSpec.ofChange journalPlacesSpec)

/-- ITS FALSE NEIGHBOUR: 'it returns false'. Refute it at one input. -/
def journalPlacesWrong : ChangeSpec := { name := "journalPlaces", fn := fun _ => fun
  | [d1, d2, d3] => { results := [.lit (.bool false)], args := [d1, d2, d3] }
  | _ => none }
def JournalPlacesWrongFalsely : Prop := journalPlacesRow.holds Try.pinned (OpenSpec.ofChange journalPlacesWrong)

/-- 'blockyardlaw21.JournalKnown': WHATEVER THE INPUT: true; the input reads as it did. -/
def journalKnownSpec : ChangeSpec := { name := "journalKnown", fn := fun _ => fun
  | [] => { results := [.lit (.bool true)], args := [] }
  | _ => none }
def journalKnownRow : OpenClaim := { program := "ytccbohjcbhibkaa", sum := "5bd221ca239c995c8ea6b05658cd4d7db1ae4df4656fc6c3a47615d6623dab26", func := "blockyard/blockyardlaw21.JournalKnown", spec := "journalKnown", inPlace := ["internal/abi.NoEscape", "internal/bytealg.MakeNoZero"], unfollowed := true, recurses := true, apart := false }
def JournalKnownSaid : Prop := journalKnownRow.holds Try.pinned (OpenSpec.ofChange journalKnownSpec)

/-- ITS FALSE NEIGHBOUR: 'it returns false'. Refute it at one input. -/
def journalKnownWrong : ChangeSpec := { name := "journalKnown", fn := fun _ => fun
  | [] => { results := [.lit (.bool false)], args := [] }
  | _ => none }
def JournalKnownWrongFalsely : Prop := journalKnownRow.holds Try.pinned (OpenSpec.ofChange journalKnownWrong)

/-- 'blockyardlaw21.JournalMerges': WHATEVER THE INPUT: true; the input reads as it did. -/
def journalMergesSpec : ChangeSpec := { name := "journalMerges", fn := fun _ => fun
  | [d1, d2, d3] => { results := [.lit (.bool true)], args := [d1, d2, d3] }
  | _ => none }
def journalMergesRow : OpenClaim := { program := "ytccbohjcbhibkaa", sum := "5bd221ca239c995c8ea6b05658cd4d7db1ae4df4656fc6c3a47615d6623dab26", func := "blockyard/blockyardlaw21.JournalMerges", spec := "journalMerges", inPlace := ["internal/abi.NoEscape", "internal/bytealg.MakeNoZero"], unfollowed := true, recurses := true, apart := false }
def JournalMergesSaid : Prop := journalMergesRow.holds Try.pinned (OpenSpec.ofChange journalMergesSpec)

/-- ITS FALSE NEIGHBOUR: 'it returns false'. Refute it at one input. -/
def journalMergesWrong : ChangeSpec := { name := "journalMerges", fn := fun _ => fun
  | [d1, d2, d3] => { results := [.lit (.bool false)], args := [d1, d2, d3] }
  | _ => none }
def JournalMergesWrongFalsely : Prop := journalMergesRow.holds Try.pinned (OpenSpec.ofChange journalMergesWrong)

/- THE SECOND FORM. 'bulk': how many values and letters a reading holds, each counted each time it is reached (what is shared counts as often as it is met; a slice's spare places count too). A statement '..UptoSaid' is the law's where the arguments, and the package variables that the reading takes, are together of bulk at most 1048576: NARROWER than '..Said'. Prove '..Said' where nothing that the law and all that it calls make is longer than what came in: it says more and counts as full. Else prove '..UptoSaid'. A law counts once. -/
mutual
def uptoBulk {H : Type} : DataW H → Nat
  | .lit (.string bytes) => bytes.length + 1
  | .lit _ => 1
  | .nil => 1
  | .ptr d => uptoBulk d + 1
  | .slice elems spare => uptoBulkAll elems + uptoBulkAll spare + 1
  | .agg parts => uptoBulkAll parts + 1
  | .iface _ d => uptoBulk d + 1
  | .map entries => uptoBulkEntries entries + 1
  | .held _ => 1
def uptoBulkAll {H : Type} : List (DataW H) → Nat
  | [] => 0
  | d :: r => uptoBulk d + uptoBulkAll r
def uptoBulkEntries {H : Type} : List (Lit × DataW H) → Nat
  | [] => 0
  | x :: r => uptoBulkEntry x + uptoBulkEntries r
def uptoBulkEntry {H : Type} : Lit × DataW H → Nat
  | (.string bytes, d) => bytes.length + uptoBulk d + 1
  | (_, d) => uptoBulk d + 1
 end
def uptoSmall : (H : Type) → List (DataW H) → Bool := fun _ ds => decide (uptoBulkAll ds ≤ 1048576)
def OpenSpec.upto (s : _root_.Go.ChangeSpec) : _root_.Go.OpenSpec := { _root_.Go.OpenSpec.ofChange s with cond := some uptoSmall }

/-- 'blockyardlaw21.JournalOnce', WHERE WHAT IT READS IS OF BULK AT MOST 1048576: true; the input reads as it did. -/
def journalOnceUptoRow : OpenClaim := { program := "ytccbohjcbhibkaa", sum := "5bd221ca239c995c8ea6b05658cd4d7db1ae4df4656fc6c3a47615d6623dab26", func := "blockyard/blockyardlaw21.JournalOnce", spec := "journalOnce", inPlace := ["internal/abi.NoEscape", "internal/bytealg.MakeNoZero"], unfollowed := true, recurses := true, apart := false, narrowed := true }
def JournalOnceUptoSaid : Prop := journalOnceUptoRow.holds Try.pinned (OpenSpec.upto journalOnceSpec)

/-- 'blockyardlaw21.JournalSectors', WHERE WHAT IT READS IS OF BULK AT MOST 1048576: true; the input reads as it did. -/
def journalSectorsUptoRow : OpenClaim := { program := "ytccbohjcbhibkaa", sum := "5bd221ca239c995c8ea6b05658cd4d7db1ae4df4656fc6c3a47615d6623dab26", func := "blockyard/blockyardlaw21.JournalSectors", spec := "journalSectors", inPlace := ["internal/abi.NoEscape", "internal/bytealg.MakeNoZero"], unfollowed := true, recurses := true, apart := false, narrowed := true }
def JournalSectorsUptoSaid : Prop := journalSectorsUptoRow.holds Try.pinned (OpenSpec.upto journalSectorsSpec)

/-- 'blockyardlaw21.JournalReads', WHERE WHAT IT READS IS OF BULK AT MOST 1048576: true; the input reads as it did. -/
def journalReadsUptoRow : OpenClaim := { program := "ytccbohjcbhibkaa", sum := "5bd221ca239c995c8ea6b05658cd4d7db1ae4df4656fc6c3a47615d6623dab26", func := "blockyard/blockyardlaw21.JournalReads", spec := "journalReads", inPlace := ["internal/abi.NoEscape", "internal/bytealg.MakeNoZero"], unfollowed := true, recurses := true, apart := false, narrowed := true }
def JournalReadsUptoSaid : Prop := journalReadsUptoRow.holds Try.pinned (OpenSpec.upto journalReadsSpec)

/-- 'blockyardlaw21.JournalBack', WHERE WHAT IT READS IS OF BULK AT MOST 1048576: true; the input reads as it did. -/
def journalBackUptoRow : OpenClaim := { program := "ytccbohjcbhibkaa", sum := "5bd221ca239c995c8ea6b05658cd4d7db1ae4df4656fc6c3a47615d6623dab26", func := "blockyard/blockyardlaw21.JournalBack", spec := "journalBack", inPlace := ["internal/abi.NoEscape", "internal/bytealg.MakeNoZero"], unfollowed := true, recurses := true, apart := false, narrowed := true }
def JournalBackUptoSaid : Prop := journalBackUptoRow.holds Try.pinned (OpenSpec.upto journalBackSpec)

/-- 'blockyardlaw21.JournalTorn', WHERE WHAT IT READS IS OF BULK AT MOST 1048576: true; the input reads as it did. -/
def journalTornUptoRow : OpenClaim := { program := "ytccbohjcbhibkaa", sum := "5bd221ca239c995c8ea6b05658cd4d7db1ae4df4656fc6c3a47615d6623dab26", func := "blockyard/blockyardlaw21.JournalTorn", spec := "journalTorn", inPlace := ["internal/abi.NoEscape", "internal/bytealg.MakeNoZero"], unfollowed := true, recurses := true, apart := false, narrowed := true }
def JournalTornUptoSaid : Prop := journalTornUptoRow.holds Try.pinned (OpenSpec.upto journalTornSpec)

/-- 'blockyardlaw21.JournalPlaces', WHERE WHAT IT READS IS OF BULK AT MOST 1048576: true; the input reads as it did. -/
def journalPlacesUptoRow : OpenClaim := { program := "ytccbohjcbhibkaa", sum := "5bd221ca239c995c8ea6b05658cd4d7db1ae4df4656fc6c3a47615d6623dab26", func := "blockyard/blockyardlaw21.JournalPlaces", spec := "journalPlaces", inPlace := ["internal/abi.NoEscape", "internal/bytealg.MakeNoZero"], unfollowed := true, recurses := true, apart := false, narrowed := true }
def JournalPlacesUptoSaid : Prop := journalPlacesUptoRow.holds Try.pinned (OpenSpec.upto journalPlacesSpec)

/-- 'blockyardlaw21.JournalKnown', WHERE WHAT IT READS IS OF BULK AT MOST 1048576: true; the input reads as it did. -/
def journalKnownUptoRow : OpenClaim := { program := "ytccbohjcbhibkaa", sum := "5bd221ca239c995c8ea6b05658cd4d7db1ae4df4656fc6c3a47615d6623dab26", func := "blockyard/blockyardlaw21.JournalKnown", spec := "journalKnown", inPlace := ["internal/abi.NoEscape", "internal/bytealg.MakeNoZero"], unfollowed := true, recurses := true, apart := false, narrowed := true }
def JournalKnownUptoSaid : Prop := journalKnownUptoRow.holds Try.pinned (OpenSpec.upto journalKnownSpec)

/-- 'blockyardlaw21.JournalMerges', WHERE WHAT IT READS IS OF BULK AT MOST 1048576: true; the input reads as it did. -/
def journalMergesUptoRow : OpenClaim := { program := "ytccbohjcbhibkaa", sum := "5bd221ca239c995c8ea6b05658cd4d7db1ae4df4656fc6c3a47615d6623dab26", func := "blockyard/blockyardlaw21.JournalMerges", spec := "journalMerges", inPlace := ["internal/abi.NoEscape", "internal/bytealg.MakeNoZero"], unfollowed := true, recurses := true, apart := false, narrowed := true }
def JournalMergesUptoSaid : Prop := journalMergesUptoRow.holds Try.pinned (OpenSpec.upto journalMergesSpec)

end Rows
end Go.Proofs.Ytccbohjcbhibkaa
