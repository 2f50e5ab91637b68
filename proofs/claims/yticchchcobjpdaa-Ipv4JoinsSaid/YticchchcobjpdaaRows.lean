/-
  No cell of these rows narrows 'for every input' (looked for: loops, veiled, ifaces, maps, wideKeys, modest, calm, conditions, laid).
  DERIVED. THE GIVEN ROWS OF THIS SEAT. 9 by the template 'for every input the law returns true; each argument reads behind the call as it read before'; 0 by the template 'total and deterministic' (their statements: YticchchcobjpdaaTotals.lean).
  GIVEN WITH THE SEED: the statements are not yours to turn. If you find one false, say at which input.
  Laid BY PROGRAM, IN A SANDBOX (cutbox-rows.mjs): the forced cells as the released guide's own fill.sh prints them over the translation 41534ea81c41f61b… (all of the seat's roots in one cut). By AI agents, Wed Nov 11 2026. No macro, syntax, notation, axiom, sorry.
-/
import Derived.Test.YticchchcobjpdaaChecked
import GoSem.Claim
import GoSem.ClaimJoined
import GoSem.ClaimMapViews
import Derived.JoinedTies
import Derived.KernelRfl
namespace Go.Proofs.Yticchchcobjpdaa
/- THE CELL 'sum', in the pinned program and in every row, IS THE sha256 OF THE DUMP (.gsa) THAT YticchchcobjpdaaProg.lean LOADS. Nothing in Lean hashes anything: it is a label: what it is worth is what the hold of that sum in a sandbox is worth. -/
noncomputable def Try.pinned : Pinned := { name := "yticchchcobjpdaa", sum := "41534ea81c41f61be35bfdb2d14929087ef10674d2e7f8ff9686c667e52d9d27", checked := Try.checked }
namespace Rows
def none {H : Type} : Left H := { results := [], args := [] }

/-- 'blockyardlaw08.Ipv4Writes': WHATEVER THE INPUT: true; the input reads as it did. -/
def ipv4WritesSpec : ChangeSpec := { name := "ipv4Writes", fn := fun _ => fun
  | [d1, d2] => { results := [.lit (.bool true)], args := [d1, d2] }
  | _ => none }
def ipv4WritesRow : OpenClaim := { program := "yticchchcobjpdaa", sum := "41534ea81c41f61be35bfdb2d14929087ef10674d2e7f8ff9686c667e52d9d27", func := "blockyard/blockyardlaw08.Ipv4Writes", spec := "ipv4Writes", unfollowed := true, recurses := true, apart := false }
def Ipv4WritesSaid : Prop := ipv4WritesRow.holds Try.pinned (OpenSpec.ofChange ipv4WritesSpec)

/-- ITS FALSE NEIGHBOUR: 'it returns false'. Refute it at one input. -/
def ipv4WritesWrong : ChangeSpec := { name := "ipv4Writes", fn := fun _ => fun
  | [d1, d2] => { results := [.lit (.bool false)], args := [d1, d2] }
  | _ => none }
def Ipv4WritesWrongFalsely : Prop := ipv4WritesRow.holds Try.pinned (OpenSpec.ofChange ipv4WritesWrong)

/-- 'blockyardlaw08.Ipv4Known': WHATEVER THE INPUT: true; the input reads as it did. -/
def ipv4KnownSpec : ChangeSpec := { name := "ipv4Known", fn := fun _ => fun
  | [] => { results := [.lit (.bool true)], args := [] }
  | _ => none }
def ipv4KnownRow : OpenClaim := { program := "yticchchcobjpdaa", sum := "41534ea81c41f61be35bfdb2d14929087ef10674d2e7f8ff9686c667e52d9d27", func := "blockyard/blockyardlaw08.Ipv4Known", spec := "ipv4Known", inPlace := ["internal/abi.NoEscape", "internal/bytealg.MakeNoZero"], unfollowed := true, recurses := true, apart := false }
def Ipv4KnownSaid : Prop := ipv4KnownRow.holds Try.pinned (OpenSpec.ofChange ipv4KnownSpec)

/-- ITS FALSE NEIGHBOUR: 'it returns false'. Refute it at one input. -/
def ipv4KnownWrong : ChangeSpec := { name := "ipv4Known", fn := fun _ => fun
  | [] => { results := [.lit (.bool false)], args := [] }
  | _ => none }
def Ipv4KnownWrongFalsely : Prop := ipv4KnownRow.holds Try.pinned (OpenSpec.ofChange ipv4KnownWrong)

/-- 'blockyardlaw08.Ipv4Reads': WHATEVER THE INPUT: true; the input reads as it did. -/
def ipv4ReadsSpec : ChangeSpec := { name := "ipv4Reads", fn := fun _ => fun
  | [d] => { results := [.lit (.bool true)], args := [d] }
  | _ => none }
def ipv4ReadsRow : OpenClaim := { program := "yticchchcobjpdaa", sum := "41534ea81c41f61be35bfdb2d14929087ef10674d2e7f8ff9686c667e52d9d27", func := "blockyard/blockyardlaw08.Ipv4Reads", spec := "ipv4Reads", unfollowed := true, recurses := true, apart := false }
def Ipv4ReadsSaid : Prop := ipv4ReadsRow.holds Try.pinned (OpenSpec.ofChange ipv4ReadsSpec)

/-- ITS FALSE NEIGHBOUR: 'it returns false'. Refute it at one input. -/
def ipv4ReadsWrong : ChangeSpec := { name := "ipv4Reads", fn := fun _ => fun
  | [d] => { results := [.lit (.bool false)], args := [d] }
  | _ => none }
def Ipv4ReadsWrongFalsely : Prop := ipv4ReadsRow.holds Try.pinned (OpenSpec.ofChange ipv4ReadsWrong)

/-- 'blockyardlaw08.Ipv4Heads': WHATEVER THE INPUT: true; the input reads as it did. -/
def ipv4HeadsSpec : ChangeSpec := { name := "ipv4Heads", fn := fun _ => fun
  | [d] => { results := [.lit (.bool true)], args := [d] }
  | _ => none }
def ipv4HeadsRow : OpenClaim := { program := "yticchchcobjpdaa", sum := "41534ea81c41f61be35bfdb2d14929087ef10674d2e7f8ff9686c667e52d9d27", func := "blockyard/blockyardlaw08.Ipv4Heads", spec := "ipv4Heads", unfollowed := true, recurses := true, apart := false }
def Ipv4HeadsSaid : Prop := ipv4HeadsRow.holds Try.pinned (OpenSpec.ofChange ipv4HeadsSpec)

/-- ITS FALSE NEIGHBOUR: 'it returns false'. Refute it at one input. -/
def ipv4HeadsWrong : ChangeSpec := { name := "ipv4Heads", fn := fun _ => fun
  | [d] => { results := [.lit (.bool false)], args := [d] }
  | _ => none }
def Ipv4HeadsWrongFalsely : Prop := ipv4HeadsRow.holds Try.pinned (OpenSpec.ofChange ipv4HeadsWrong)

/-- 'blockyardlaw08.Ipv4Back': WHATEVER THE INPUT: true; the input reads as it did. -/
def ipv4BackSpec : ChangeSpec := { name := "ipv4Back", fn := fun _ => fun
  | [d1, d2] => { results := [.lit (.bool true)], args := [d1, d2] }
  | _ => none }
def ipv4BackRow : OpenClaim := { program := "yticchchcobjpdaa", sum := "41534ea81c41f61be35bfdb2d14929087ef10674d2e7f8ff9686c667e52d9d27", func := "blockyard/blockyardlaw08.Ipv4Back", spec := "ipv4Back", unfollowed := true, recurses := true, apart := false }
def Ipv4BackSaid : Prop := ipv4BackRow.holds Try.pinned (OpenSpec.ofChange ipv4BackSpec)

/-- ITS FALSE NEIGHBOUR: 'it returns false'. Refute it at one input. -/
def ipv4BackWrong : ChangeSpec := { name := "ipv4Back", fn := fun _ => fun
  | [d1, d2] => { results := [.lit (.bool false)], args := [d1, d2] }
  | _ => none }
def Ipv4BackWrongFalsely : Prop := ipv4BackRow.holds Try.pinned (OpenSpec.ofChange ipv4BackWrong)

/-- 'blockyardlaw08.Ipv4Sums': WHATEVER THE INPUT: true; the input reads as it did. -/
def ipv4SumsSpec : ChangeSpec := { name := "ipv4Sums", fn := fun _ => fun
  | [d1, d2, d3, d4] => { results := [.lit (.bool true)], args := [d1, d2, d3, d4] }
  | _ => none }
def ipv4SumsRow : OpenClaim := { program := "yticchchcobjpdaa", sum := "41534ea81c41f61be35bfdb2d14929087ef10674d2e7f8ff9686c667e52d9d27", func := "blockyard/blockyardlaw08.Ipv4Sums", spec := "ipv4Sums", unfollowed := true, recurses := true, apart := false }
def Ipv4SumsSaid : Prop := ipv4SumsRow.holds Try.pinned (OpenSpec.ofChange ipv4SumsSpec)

/-- ITS FALSE NEIGHBOUR: 'it returns false'. Refute it at one input. -/
def ipv4SumsWrong : ChangeSpec := { name := "ipv4Sums", fn := fun _ => fun
  | [d1, d2, d3, d4] => { results := [.lit (.bool false)], args := [d1, d2, d3, d4] }
  | _ => none }
def Ipv4SumsWrongFalsely : Prop := ipv4SumsRow.holds Try.pinned (OpenSpec.ofChange ipv4SumsWrong)

/-- 'blockyardlaw08.Ipv4Cuts': WHATEVER THE INPUT: true; the input reads as it did. -/
def ipv4CutsSpec : ChangeSpec := { name := "ipv4Cuts", fn := fun _ => fun
  | [d1, d2, d3, d4] => { results := [.lit (.bool true)], args := [d1, d2, d3, d4] }
  | _ => none }
def ipv4CutsRow : OpenClaim := { program := "yticchchcobjpdaa", sum := "41534ea81c41f61be35bfdb2d14929087ef10674d2e7f8ff9686c667e52d9d27", func := "blockyard/blockyardlaw08.Ipv4Cuts", spec := "ipv4Cuts", unfollowed := true, recurses := true, apart := false }
def Ipv4CutsSaid : Prop := ipv4CutsRow.holds Try.pinned (OpenSpec.ofChange ipv4CutsSpec)

/-- ITS FALSE NEIGHBOUR: 'it returns false'. Refute it at one input. -/
def ipv4CutsWrong : ChangeSpec := { name := "ipv4Cuts", fn := fun _ => fun
  | [d1, d2, d3, d4] => { results := [.lit (.bool false)], args := [d1, d2, d3, d4] }
  | _ => none }
def Ipv4CutsWrongFalsely : Prop := ipv4CutsRow.holds Try.pinned (OpenSpec.ofChange ipv4CutsWrong)

/-- 'blockyardlaw08.Ipv4Nobody': WHATEVER THE INPUT: true; the input reads as it did. -/
def ipv4NobodySpec : ChangeSpec := { name := "ipv4Nobody", fn := fun _ => fun
  | [d] => { results := [.lit (.bool true)], args := [d] }
  | _ => none }
def ipv4NobodyRow : OpenClaim := { program := "yticchchcobjpdaa", sum := "41534ea81c41f61be35bfdb2d14929087ef10674d2e7f8ff9686c667e52d9d27", func := "blockyard/blockyardlaw08.Ipv4Nobody", spec := "ipv4Nobody", unfollowed := true, recurses := true, apart := false }
def Ipv4NobodySaid : Prop := ipv4NobodyRow.holds Try.pinned (OpenSpec.ofChange ipv4NobodySpec)

/-- ITS FALSE NEIGHBOUR: 'it returns false'. Refute it at one input. -/
def ipv4NobodyWrong : ChangeSpec := { name := "ipv4Nobody", fn := fun _ => fun
  | [d] => { results := [.lit (.bool false)], args := [d] }
  | _ => none }
def Ipv4NobodyWrongFalsely : Prop := ipv4NobodyRow.holds Try.pinned (OpenSpec.ofChange ipv4NobodyWrong)

/-- 'blockyardlaw08.Ipv4Joins': WHATEVER THE INPUT: true; the input reads as it did. -/
def ipv4JoinsSpec : ChangeSpec := { name := "ipv4Joins", fn := fun _ => fun
  | [d1, d2] => { results := [.lit (.bool true)], args := [d1, d2] }
  | _ => none }
def ipv4JoinsRow : OpenClaim := { program := "yticchchcobjpdaa", sum := "41534ea81c41f61be35bfdb2d14929087ef10674d2e7f8ff9686c667e52d9d27", func := "blockyard/blockyardlaw08.Ipv4Joins", spec := "ipv4Joins", unfollowed := true, recurses := true, apart := false }
def Ipv4JoinsSaid : Prop := ipv4JoinsRow.holds Try.pinned (OpenSpec.ofChange ipv4JoinsSpec)

/-- ITS FALSE NEIGHBOUR: 'it returns false'. Refute it at one input. -/
def ipv4JoinsWrong : ChangeSpec := { name := "ipv4Joins", fn := fun _ => fun
  | [d1, d2] => { results := [.lit (.bool false)], args := [d1, d2] }
  | _ => none }
def Ipv4JoinsWrongFalsely : Prop := ipv4JoinsRow.holds Try.pinned (OpenSpec.ofChange ipv4JoinsWrong)

/- THE SECOND FORM. 'bulk': how many values and letters a reading holds, each counted each time it is reached (what is shared counts as often as it is met; a slice's spare places count too). A statement '..UptoSaid' is the law's where the arguments, and the package variables that the reading takes, are together of bulk at most 1048576: NARROWER than '..Said'. Prove '..Said' where nothing that the law and all that it calls make is longer than what came in: it says more and counts as full. Else prove '..UptoSaid'. A law counts once. -/
mutual
def uptoBulk {H : Type} : DataW H → Nat
  | .lit (.string bytes) => bytes.length + 1
  | .lit _ => 1
  | .nil => 1
  | .ptr d => uptoBulk d + 1
  | .slice elems spare => uptoBulkAll elems + uptoBulkAll spare + 1
  | .agg parts => uptoBulkAll parts + 1
  | .iface _ d => uptoBulk d + 1
  | .map entries => uptoBulkEntries entries + 1
  | .held _ => 1
def uptoBulkAll {H : Type} : List (DataW H) → Nat
  | [] => 0
  | d :: r => uptoBulk d + uptoBulkAll r
def uptoBulkEntries {H : Type} : List (Lit × DataW H) → Nat
  | [] => 0
  | x :: r => uptoBulkEntry x + uptoBulkEntries r
def uptoBulkEntry {H : Type} : Lit × DataW H → Nat
  | (.string bytes, d) => bytes.length + uptoBulk d + 1
  | (_, d) => uptoBulk d + 1
 end
def uptoSmall : (H : Type) → List (DataW H) → Bool := fun _ ds => decide (uptoBulkAll ds ≤ 1048576)
def OpenSpec.upto (s : _root_.Go.ChangeSpec) : _root_.Go.OpenSpec := { _root_.Go.OpenSpec.ofChange s with cond := some uptoSmall }

/-- 'blockyardlaw08.Ipv4Writes', WHERE WHAT IT READS IS OF BULK AT MOST 1048576: true; the input reads as it did. -/
def ipv4WritesUptoRow : OpenClaim := { program := "yticchchcobjpdaa", sum := "41534ea81c41f61be35bfdb2d14929087ef10674d2e7f8ff9686c667e52d9d27", func := "blockyard/blockyardlaw08.Ipv4Writes", spec := "ipv4Writes", unfollowed := true, recurses := true, apart := false, narrowed := true }
def Ipv4WritesUptoSaid : Prop := ipv4WritesUptoRow.holds Try.pinned (OpenSpec.upto ipv4WritesSpec)

/-- 'blockyardlaw08.Ipv4Known', WHERE WHAT IT READS IS OF BULK AT MOST 1048576: true; the input reads as it did. -/
def ipv4KnownUptoRow : OpenClaim := { program := "yticchchcobjpdaa", sum := "41534ea81c41f61be35bfdb2d14929087ef10674d2e7f8ff9686c667e52d9d27", func := "blockyard/blockyardlaw08.Ipv4Known", spec := "ipv4Known", inPlace := ["internal/abi.NoEscape", "internal/bytealg.MakeNoZero"], unfollowed := true, recurses := true, apart := false, narrowed := true }
def Ipv4KnownUptoSaid : Prop := ipv4KnownUptoRow.holds Try.pinned (OpenSpec.upto ipv4KnownSpec)

/-- 'blockyardlaw08.Ipv4Reads', WHERE WHAT IT READS IS OF BULK AT MOST 1048576: true; the input reads as it did. -/
def ipv4ReadsUptoRow : OpenClaim := { program := "yticchchcobjpdaa", sum := "41534ea81c41f61be35bfdb2d14929087ef10674d2e7f8ff9686c667e52d9d27", func := "blockyard/blockyardlaw08.Ipv4Reads", spec := "ipv4Reads", unfollowed := true, recurses := true, apart := false, narrowed := true }
def Ipv4ReadsUptoSaid : Prop := ipv4ReadsUptoRow.holds Try.pinned (OpenSpec.upto ipv4ReadsSpec)

/-- 'blockyardlaw08.Ipv4Heads', WHERE WHAT IT READS IS OF BULK AT MOST 1048576: true; the input reads as it did. -/
def ipv4HeadsUptoRow : OpenClaim := { program := "yticchchcobjpdaa", sum := "41534ea81c41f61be35bfdb2d14929087ef10674d2e7f8ff9686c667e52d9d27", func := "blockyard/blockyardlaw08.Ipv4Heads", spec := "ipv4Heads", unfollowed := true, recurses := true, apart := false, narrowed := true }
def Ipv4HeadsUptoSaid : Prop := ipv4HeadsUptoRow.holds Try.pinned (OpenSpec.upto ipv4HeadsSpec)

/-- 'blockyardlaw08.Ipv4Back', WHERE WHAT IT READS IS OF BULK AT MOST 1048576: true; the input reads as it did. -/
def ipv4BackUptoRow : OpenClaim := { program := "yticchchcobjpdaa", sum := "41534ea81c41f61be35bfdb2d14929087ef10674d2e7f8ff9686c667e52d9d27", func := "blockyard/blockyardlaw08.Ipv4Back", spec := "ipv4Back", unfollowed := true, recurses := true, apart := false, narrowed := true }
def Ipv4BackUptoSaid : Prop := ipv4BackUptoRow.holds Try.pinned (OpenSpec.upto ipv4BackSpec)

/-- 'blockyardlaw08.Ipv4Sums', WHERE WHAT IT READS IS OF BULK AT MOST 1048576: true; the input reads as it did. -/
def ipv4SumsUptoRow : OpenClaim := { program := "yticchchcobjpdaa", sum := "41534ea81c41f61be35bfdb2d14929087ef10674d2e7f8ff9686c667e52d9d27", func := "blockyard/blockyardlaw08.Ipv4Sums", spec := "ipv4Sums", unfollowed := true, recurses := true, apart := false, narrowed := true }
def Ipv4SumsUptoSaid : Prop := ipv4SumsUptoRow.holds Try.pinned (OpenSpec.upto ipv4SumsSpec)

/-- 'blockyardlaw08.Ipv4Cuts', WHERE WHAT IT READS IS OF BULK AT MOST 1048576: true; the input reads as it did. -/
def ipv4CutsUptoRow : OpenClaim := { program := "yticchchcobjpdaa", sum := "41534ea81c41f61be35bfdb2d14929087ef10674d2e7f8ff9686c667e52d9d27", func := "blockyard/blockyardlaw08.Ipv4Cuts", spec := "ipv4Cuts", unfollowed := true, recurses := true, apart := false, narrowed := true }
def Ipv4CutsUptoSaid : Prop := ipv4CutsUptoRow.holds Try.pinned (OpenSpec.upto ipv4CutsSpec)

/-- 'blockyardlaw08.Ipv4Nobody', WHERE WHAT IT READS IS OF BULK AT MOST 1048576: true; the input reads as it did. -/
def ipv4NobodyUptoRow : OpenClaim := { program := "yticchchcobjpdaa", sum := "41534ea81c41f61be35bfdb2d14929087ef10674d2e7f8ff9686c667e52d9d27", func := "blockyard/blockyardlaw08.Ipv4Nobody", spec := "ipv4Nobody", unfollowed := true, recurses := true, apart := false, narrowed := true }
def Ipv4NobodyUptoSaid : Prop := ipv4NobodyUptoRow.holds Try.pinned (OpenSpec.upto ipv4NobodySpec)

/-- 'blockyardlaw08.Ipv4Joins', WHERE WHAT IT READS IS OF BULK AT MOST 1048576: true; the input reads as it did. -/
def ipv4JoinsUptoRow : OpenClaim := { program := "yticchchcobjpdaa", sum := "41534ea81c41f61be35bfdb2d14929087ef10674d2e7f8ff9686c667e52d9d27", func := "blockyard/blockyardlaw08.Ipv4Joins", spec := "ipv4Joins", unfollowed := true, recurses := true, apart := false, narrowed := true }
def Ipv4JoinsUptoSaid : Prop := ipv4JoinsUptoRow.holds Try.pinned (OpenSpec.upto ipv4JoinsSpec)

end Rows
end Go.Proofs.Yticchchcobjpdaa
