/-
  No cell of these rows narrows 'for every input' (looked for: loops, veiled, ifaces, maps, wideKeys, modest, calm, conditions, laid).
  DERIVED. THE GIVEN ROWS OF THIS SEAT. 12 by the template 'for every input the law returns true; each argument reads behind the call as it read before'; 0 by the template 'total and deterministic' (their statements: YtpnhopgfoakgnaaTotals.lean).
  GIVEN WITH THE SEED: the statements are not yours to turn. If you find one false, say at which input.
  Laid BY PROGRAM, IN A SANDBOX (cutbox-rows.mjs): the forced cells as the released guide's own fill.sh prints them over the translation a09b48a7f5c39c7d… (all of the seat's roots in one cut). By AI agents, Wed Nov 11 2026. No macro, syntax, notation, axiom, sorry.
-/
import Derived.Test.YtpnhopgfoakgnaaChecked
import GoSem.Claim
import GoSem.ClaimJoined
import GoSem.ClaimMapViews
import Derived.JoinedTies
import Derived.KernelRfl
namespace Go.Proofs.Ytpnhopgfoakgnaa
/- THE CELL 'sum', in the pinned program and in every row, IS THE sha256 OF THE DUMP (.gsa) THAT YtpnhopgfoakgnaaProg.lean LOADS. Nothing in Lean hashes anything: it is a label: what it is worth is what the hold of that sum in a sandbox is worth. -/
noncomputable def Try.pinned : Pinned := { name := "ytpnhopgfoakgnaa", sum := "a09b48a7f5c39c7ddf566bea01a55702fc914f95722bf8458dd0d586bd3f9c26", checked := Try.checked }
namespace Rows
def none {H : Type} : Left H := { results := [], args := [] }

/-- 'blockyardlaw09.IcmpCodes': WHATEVER THE INPUT: true; the input reads as it did. -/
def icmpCodesSpec : ChangeSpec := { name := "icmpCodes", fn := fun _ => fun
  | [d1, d2] => { results := [.lit (.bool true)], args := [d1, d2] }
  | _ => none }
def icmpCodesRow : OpenClaim := { program := "ytpnhopgfoakgnaa", sum := "a09b48a7f5c39c7ddf566bea01a55702fc914f95722bf8458dd0d586bd3f9c26", func := "blockyard/blockyardlaw09.IcmpCodes", spec := "icmpCodes", apart := false }
def IcmpCodesSaid : Prop := icmpCodesRow.holds Try.pinned (OpenSpec.ofChange icmpCodesSpec)

/-- ITS FALSE NEIGHBOUR: 'it returns false'. Refute it at one input. -/
def icmpCodesWrong : ChangeSpec := { name := "icmpCodes", fn := fun _ => fun
  | [d1, d2] => { results := [.lit (.bool false)], args := [d1, d2] }
  | _ => none }
def IcmpCodesWrongFalsely : Prop := icmpCodesRow.holds Try.pinned (OpenSpec.ofChange icmpCodesWrong)

/-- 'blockyardlaw09.IcmpBack': WHATEVER THE INPUT: true; the input reads as it did. -/
def icmpBackSpec : ChangeSpec := { name := "icmpBack", fn := fun _ => fun
  | [d1, d2] => { results := [.lit (.bool true)], args := [d1, d2] }
  | _ => none }
def icmpBackRow : OpenClaim := { program := "ytpnhopgfoakgnaa", sum := "a09b48a7f5c39c7ddf566bea01a55702fc914f95722bf8458dd0d586bd3f9c26", func := "blockyard/blockyardlaw09.IcmpBack", spec := "icmpBack", apart := false }
def IcmpBackSaid : Prop := icmpBackRow.holds Try.pinned (OpenSpec.ofChange icmpBackSpec)

/-- ITS FALSE NEIGHBOUR: 'it returns false'. Refute it at one input. -/
def icmpBackWrong : ChangeSpec := { name := "icmpBack", fn := fun _ => fun
  | [d1, d2] => { results := [.lit (.bool false)], args := [d1, d2] }
  | _ => none }
def IcmpBackWrongFalsely : Prop := icmpBackRow.holds Try.pinned (OpenSpec.ofChange icmpBackWrong)

/-- 'blockyardlaw07.ArpCodes': WHATEVER THE INPUT: true; the input reads as it did. -/
def arpCodesSpec : ChangeSpec := { name := "arpCodes", fn := fun _ => fun
  | [d1, d2] => { results := [.lit (.bool true)], args := [d1, d2] }
  | _ => none }
def arpCodesRow : OpenClaim := { program := "ytpnhopgfoakgnaa", sum := "a09b48a7f5c39c7ddf566bea01a55702fc914f95722bf8458dd0d586bd3f9c26", func := "blockyard/blockyardlaw07.ArpCodes", spec := "arpCodes", apart := false }
def ArpCodesSaid : Prop := arpCodesRow.holds Try.pinned (OpenSpec.ofChange arpCodesSpec)

/-- ITS FALSE NEIGHBOUR: 'it returns false'. Refute it at one input. -/
def arpCodesWrong : ChangeSpec := { name := "arpCodes", fn := fun _ => fun
  | [d1, d2] => { results := [.lit (.bool false)], args := [d1, d2] }
  | _ => none }
def ArpCodesWrongFalsely : Prop := arpCodesRow.holds Try.pinned (OpenSpec.ofChange arpCodesWrong)

/-- 'blockyardlaw07.ArpBack': WHATEVER THE INPUT: true; the input reads as it did. -/
def arpBackSpec : ChangeSpec := { name := "arpBack", fn := fun _ => fun
  | [d1, d2, d3] => { results := [.lit (.bool true)], args := [d1, d2, d3] }
  | _ => none }
def arpBackRow : OpenClaim := { program := "ytpnhopgfoakgnaa", sum := "a09b48a7f5c39c7ddf566bea01a55702fc914f95722bf8458dd0d586bd3f9c26", func := "blockyard/blockyardlaw07.ArpBack", spec := "arpBack", apart := false }
def ArpBackSaid : Prop := arpBackRow.holds Try.pinned (OpenSpec.ofChange arpBackSpec)

/-- ITS FALSE NEIGHBOUR: 'it returns false'. Refute it at one input. -/
def arpBackWrong : ChangeSpec := { name := "arpBack", fn := fun _ => fun
  | [d1, d2, d3] => { results := [.lit (.bool false)], args := [d1, d2, d3] }
  | _ => none }
def ArpBackWrongFalsely : Prop := arpBackRow.holds Try.pinned (OpenSpec.ofChange arpBackWrong)

/-- 'blockyardlaw09.IcmpLost': WHATEVER THE INPUT: true; the input reads as it did. -/
def icmpLostSpec : ChangeSpec := { name := "icmpLost", fn := fun _ => fun
  | [d1, d2] => { results := [.lit (.bool true)], args := [d1, d2] }
  | _ => none }
def icmpLostRow : OpenClaim := { program := "ytpnhopgfoakgnaa", sum := "a09b48a7f5c39c7ddf566bea01a55702fc914f95722bf8458dd0d586bd3f9c26", func := "blockyard/blockyardlaw09.IcmpLost", spec := "icmpLost", apart := false }
def IcmpLostSaid : Prop := icmpLostRow.holds Try.pinned (OpenSpec.ofChange icmpLostSpec)

/-- ITS FALSE NEIGHBOUR: 'it returns false'. Refute it at one input. -/
def icmpLostWrong : ChangeSpec := { name := "icmpLost", fn := fun _ => fun
  | [d1, d2] => { results := [.lit (.bool false)], args := [d1, d2] }
  | _ => none }
def IcmpLostWrongFalsely : Prop := icmpLostRow.holds Try.pinned (OpenSpec.ofChange icmpLostWrong)

/-- 'blockyardlaw09.IcmpEcho': WHATEVER THE INPUT: true; the input reads as it did. -/
def icmpEchoSpec : ChangeSpec := { name := "icmpEcho", fn := fun _ => fun
  | [d] => { results := [.lit (.bool true)], args := [d] }
  | _ => none }
def icmpEchoRow : OpenClaim := { program := "ytpnhopgfoakgnaa", sum := "a09b48a7f5c39c7ddf566bea01a55702fc914f95722bf8458dd0d586bd3f9c26", func := "blockyard/blockyardlaw09.IcmpEcho", spec := "icmpEcho", apart := false }
def IcmpEchoSaid : Prop := icmpEchoRow.holds Try.pinned (OpenSpec.ofChange icmpEchoSpec)

/-- ITS FALSE NEIGHBOUR: 'it returns false'. Refute it at one input. -/
def icmpEchoWrong : ChangeSpec := { name := "icmpEcho", fn := fun _ => fun
  | [d] => { results := [.lit (.bool false)], args := [d] }
  | _ => none }
def IcmpEchoWrongFalsely : Prop := icmpEchoRow.holds Try.pinned (OpenSpec.ofChange icmpEchoWrong)

/-- 'blockyardlaw09.IcmpQuotes': WHATEVER THE INPUT: true; the input reads as it did. -/
def icmpQuotesSpec : ChangeSpec := { name := "icmpQuotes", fn := fun _ => fun
  | [d1, d2] => { results := [.lit (.bool true)], args := [d1, d2] }
  | _ => none }
def icmpQuotesRow : OpenClaim := { program := "ytpnhopgfoakgnaa", sum := "a09b48a7f5c39c7ddf566bea01a55702fc914f95722bf8458dd0d586bd3f9c26", func := "blockyard/blockyardlaw09.IcmpQuotes", spec := "icmpQuotes", apart := false }
def IcmpQuotesSaid : Prop := icmpQuotesRow.holds Try.pinned (OpenSpec.ofChange icmpQuotesSpec)

/-- ITS FALSE NEIGHBOUR: 'it returns false'. Refute it at one input. -/
def icmpQuotesWrong : ChangeSpec := { name := "icmpQuotes", fn := fun _ => fun
  | [d1, d2] => { results := [.lit (.bool false)], args := [d1, d2] }
  | _ => none }
def IcmpQuotesWrongFalsely : Prop := icmpQuotesRow.holds Try.pinned (OpenSpec.ofChange icmpQuotesWrong)

/-- 'blockyardlaw07.ArpAnswers': WHATEVER THE INPUT: true; the input reads as it did. -/
def arpAnswersSpec : ChangeSpec := { name := "arpAnswers", fn := fun _ => fun
  | [d1, d2, d3] => { results := [.lit (.bool true)], args := [d1, d2, d3] }
  | _ => none }
def arpAnswersRow : OpenClaim := { program := "ytpnhopgfoakgnaa", sum := "a09b48a7f5c39c7ddf566bea01a55702fc914f95722bf8458dd0d586bd3f9c26", func := "blockyard/blockyardlaw07.ArpAnswers", spec := "arpAnswers", apart := false }
def ArpAnswersSaid : Prop := arpAnswersRow.holds Try.pinned (OpenSpec.ofChange arpAnswersSpec)

/-- ITS FALSE NEIGHBOUR: 'it returns false'. Refute it at one input. -/
def arpAnswersWrong : ChangeSpec := { name := "arpAnswers", fn := fun _ => fun
  | [d1, d2, d3] => { results := [.lit (.bool false)], args := [d1, d2, d3] }
  | _ => none }
def ArpAnswersWrongFalsely : Prop := arpAnswersRow.holds Try.pinned (OpenSpec.ofChange arpAnswersWrong)

/-- 'blockyardlaw07.ArpNobody': WHATEVER THE INPUT: true; the input reads as it did. -/
def arpNobodySpec : ChangeSpec := { name := "arpNobody", fn := fun _ => fun
  | [d1, d2] => { results := [.lit (.bool true)], args := [d1, d2] }
  | _ => none }
def arpNobodyRow : OpenClaim := { program := "ytpnhopgfoakgnaa", sum := "a09b48a7f5c39c7ddf566bea01a55702fc914f95722bf8458dd0d586bd3f9c26", func := "blockyard/blockyardlaw07.ArpNobody", spec := "arpNobody", unfollowed := true, recurses := true, apart := false }
def ArpNobodySaid : Prop := arpNobodyRow.holds Try.pinned (OpenSpec.ofChange arpNobodySpec)

/-- ITS FALSE NEIGHBOUR: 'it returns false'. Refute it at one input. -/
def arpNobodyWrong : ChangeSpec := { name := "arpNobody", fn := fun _ => fun
  | [d1, d2] => { results := [.lit (.bool false)], args := [d1, d2] }
  | _ => none }
def ArpNobodyWrongFalsely : Prop := arpNobodyRow.holds Try.pinned (OpenSpec.ofChange arpNobodyWrong)

/-- 'blockyardlaw07.ArpCaches': WHATEVER THE INPUT: true; the input reads as it did. -/
def arpCachesSpec : ChangeSpec := { name := "arpCaches", fn := fun _ => fun
  | [d1, d2] => { results := [.lit (.bool true)], args := [d1, d2] }
  | _ => none }
def arpCachesRow : OpenClaim := { program := "ytpnhopgfoakgnaa", sum := "a09b48a7f5c39c7ddf566bea01a55702fc914f95722bf8458dd0d586bd3f9c26", func := "blockyard/blockyardlaw07.ArpCaches", spec := "arpCaches", unfollowed := true, recurses := true, apart := false }
def ArpCachesSaid : Prop := arpCachesRow.holds Try.pinned (OpenSpec.ofChange arpCachesSpec)

/-- ITS FALSE NEIGHBOUR: 'it returns false'. Refute it at one input. -/
def arpCachesWrong : ChangeSpec := { name := "arpCaches", fn := fun _ => fun
  | [d1, d2] => { results := [.lit (.bool false)], args := [d1, d2] }
  | _ => none }
def ArpCachesWrongFalsely : Prop := arpCachesRow.holds Try.pinned (OpenSpec.ofChange arpCachesWrong)

/-- 'blockyardlaw07.ArpKnown': WHATEVER THE INPUT: true; the input reads as it did. -/
def arpKnownSpec : ChangeSpec := { name := "arpKnown", fn := fun _ => fun
  | [] => { results := [.lit (.bool true)], args := [] }
  | _ => none }
def arpKnownRow : OpenClaim := { program := "ytpnhopgfoakgnaa", sum := "a09b48a7f5c39c7ddf566bea01a55702fc914f95722bf8458dd0d586bd3f9c26", func := "blockyard/blockyardlaw07.ArpKnown", spec := "arpKnown", unfollowed := true, recurses := true, apart := false }
def ArpKnownSaid : Prop := arpKnownRow.holds Try.pinned (OpenSpec.ofChange arpKnownSpec)

/-- ITS FALSE NEIGHBOUR: 'it returns false'. Refute it at one input. -/
def arpKnownWrong : ChangeSpec := { name := "arpKnown", fn := fun _ => fun
  | [] => { results := [.lit (.bool false)], args := [] }
  | _ => none }
def ArpKnownWrongFalsely : Prop := arpKnownRow.holds Try.pinned (OpenSpec.ofChange arpKnownWrong)

/-- 'blockyardlaw09.IcmpKnown': WHATEVER THE INPUT: true; the input reads as it did. -/
def icmpKnownSpec : ChangeSpec := { name := "icmpKnown", fn := fun _ => fun
  | [] => { results := [.lit (.bool true)], args := [] }
  | _ => none }
def icmpKnownRow : OpenClaim := { program := "ytpnhopgfoakgnaa", sum := "a09b48a7f5c39c7ddf566bea01a55702fc914f95722bf8458dd0d586bd3f9c26", func := "blockyard/blockyardlaw09.IcmpKnown", spec := "icmpKnown", inPlace := ["internal/abi.NoEscape", "internal/bytealg.MakeNoZero"], apart := false }
def IcmpKnownSaid : Prop := icmpKnownRow.holds Try.pinned (OpenSpec.ofChange icmpKnownSpec)

/-- ITS FALSE NEIGHBOUR: 'it returns false'. Refute it at one input. -/
def icmpKnownWrong : ChangeSpec := { name := "icmpKnown", fn := fun _ => fun
  | [] => { results := [.lit (.bool false)], args := [] }
  | _ => none }
def IcmpKnownWrongFalsely : Prop := icmpKnownRow.holds Try.pinned (OpenSpec.ofChange icmpKnownWrong)

/- THE SECOND FORM. 'bulk': how many values and letters a reading holds, each counted each time it is reached (what is shared counts as often as it is met; a slice's spare places count too). A statement '..UptoSaid' is the law's where the arguments, and the package variables that the reading takes, are together of bulk at most 1048576: NARROWER than '..Said'. Prove '..Said' where nothing that the law and all that it calls make is longer than what came in: it says more and counts as full. Else prove '..UptoSaid'. A law counts once. -/
mutual
def uptoBulk {H : Type} : DataW H → Nat
  | .lit (.string bytes) => bytes.length + 1
  | .lit _ => 1
  | .nil => 1
  | .ptr d => uptoBulk d + 1
  | .slice elems spare => uptoBulkAll elems + uptoBulkAll spare + 1
  | .agg parts => uptoBulkAll parts + 1
  | .iface _ d => uptoBulk d + 1
  | .map entries => uptoBulkEntries entries + 1
  | .held _ => 1
def uptoBulkAll {H : Type} : List (DataW H) → Nat
  | [] => 0
  | d :: r => uptoBulk d + uptoBulkAll r
def uptoBulkEntries {H : Type} : List (Lit × DataW H) → Nat
  | [] => 0
  | x :: r => uptoBulkEntry x + uptoBulkEntries r
def uptoBulkEntry {H : Type} : Lit × DataW H → Nat
  | (.string bytes, d) => bytes.length + uptoBulk d + 1
  | (_, d) => uptoBulk d + 1
 end
def uptoSmall : (H : Type) → List (DataW H) → Bool := fun _ ds => decide (uptoBulkAll ds ≤ 1048576)
def OpenSpec.upto (s : _root_.Go.ChangeSpec) : _root_.Go.OpenSpec := { _root_.Go.OpenSpec.ofChange s with cond := some uptoSmall }

/-- 'blockyardlaw09.IcmpCodes', WHERE WHAT IT READS IS OF BULK AT MOST 1048576: true; the input reads as it did. -/
def icmpCodesUptoRow : OpenClaim := { program := "ytpnhopgfoakgnaa", sum := "a09b48a7f5c39c7ddf566bea01a55702fc914f95722bf8458dd0d586bd3f9c26", func := "blockyard/blockyardlaw09.IcmpCodes", spec := "icmpCodes", apart := false, narrowed := true }
def IcmpCodesUptoSaid : Prop := icmpCodesUptoRow.holds Try.pinned (OpenSpec.upto icmpCodesSpec)

/-- 'blockyardlaw09.IcmpBack', WHERE WHAT IT READS IS OF BULK AT MOST 1048576: true; the input reads as it did. -/
def icmpBackUptoRow : OpenClaim := { program := "ytpnhopgfoakgnaa", sum := "a09b48a7f5c39c7ddf566bea01a55702fc914f95722bf8458dd0d586bd3f9c26", func := "blockyard/blockyardlaw09.IcmpBack", spec := "icmpBack", apart := false, narrowed := true }
def IcmpBackUptoSaid : Prop := icmpBackUptoRow.holds Try.pinned (OpenSpec.upto icmpBackSpec)

/-- 'blockyardlaw07.ArpCodes', WHERE WHAT IT READS IS OF BULK AT MOST 1048576: true; the input reads as it did. -/
def arpCodesUptoRow : OpenClaim := { program := "ytpnhopgfoakgnaa", sum := "a09b48a7f5c39c7ddf566bea01a55702fc914f95722bf8458dd0d586bd3f9c26", func := "blockyard/blockyardlaw07.ArpCodes", spec := "arpCodes", apart := false, narrowed := true }
def ArpCodesUptoSaid : Prop := arpCodesUptoRow.holds Try.pinned (OpenSpec.upto arpCodesSpec)

/-- 'blockyardlaw07.ArpBack', WHERE WHAT IT READS IS OF BULK AT MOST 1048576: true; the input reads as it did. -/
def arpBackUptoRow : OpenClaim := { program := "ytpnhopgfoakgnaa", sum := "a09b48a7f5c39c7ddf566bea01a55702fc914f95722bf8458dd0d586bd3f9c26", func := "blockyard/blockyardlaw07.ArpBack", spec := "arpBack", apart := false, narrowed := true }
def ArpBackUptoSaid : Prop := arpBackUptoRow.holds Try.pinned (OpenSpec.upto arpBackSpec)

/-- 'blockyardlaw09.IcmpLost', WHERE WHAT IT READS IS OF BULK AT MOST 1048576: true; the input reads as it did. -/
def icmpLostUptoRow : OpenClaim := { program := "ytpnhopgfoakgnaa", sum := "a09b48a7f5c39c7ddf566bea01a55702fc914f95722bf8458dd0d586bd3f9c26", func := "blockyard/blockyardlaw09.IcmpLost", spec := "icmpLost", apart := false, narrowed := true }
def IcmpLostUptoSaid : Prop := icmpLostUptoRow.holds Try.pinned (OpenSpec.upto icmpLostSpec)

/-- 'blockyardlaw09.IcmpEcho', WHERE WHAT IT READS IS OF BULK AT MOST 1048576: true; the input reads as it did. -/
def icmpEchoUptoRow : OpenClaim := { program := "ytpnhopgfoakgnaa", sum := "a09b48a7f5c39c7ddf566bea01a55702fc914f95722bf8458dd0d586bd3f9c26", func := "blockyard/blockyardlaw09.IcmpEcho", spec := "icmpEcho", apart := false, narrowed := true }
def IcmpEchoUptoSaid : Prop := icmpEchoUptoRow.holds Try.pinned (OpenSpec.upto icmpEchoSpec)

/-- 'blockyardlaw09.IcmpQuotes', WHERE WHAT IT READS IS OF BULK AT MOST 1048576: true; the input reads as it did. -/
def icmpQuotesUptoRow : OpenClaim := { program := "ytpnhopgfoakgnaa", sum := "a09b48a7f5c39c7ddf566bea01a55702fc914f95722bf8458dd0d586bd3f9c26", func := "blockyard/blockyardlaw09.IcmpQuotes", spec := "icmpQuotes", apart := false, narrowed := true }
def IcmpQuotesUptoSaid : Prop := icmpQuotesUptoRow.holds Try.pinned (OpenSpec.upto icmpQuotesSpec)

/-- 'blockyardlaw07.ArpAnswers', WHERE WHAT IT READS IS OF BULK AT MOST 1048576: true; the input reads as it did. -/
def arpAnswersUptoRow : OpenClaim := { program := "ytpnhopgfoakgnaa", sum := "a09b48a7f5c39c7ddf566bea01a55702fc914f95722bf8458dd0d586bd3f9c26", func := "blockyard/blockyardlaw07.ArpAnswers", spec := "arpAnswers", apart := false, narrowed := true }
def ArpAnswersUptoSaid : Prop := arpAnswersUptoRow.holds Try.pinned (OpenSpec.upto arpAnswersSpec)

/-- 'blockyardlaw07.ArpNobody', WHERE WHAT IT READS IS OF BULK AT MOST 1048576: true; the input reads as it did. -/
def arpNobodyUptoRow : OpenClaim := { program := "ytpnhopgfoakgnaa", sum := "a09b48a7f5c39c7ddf566bea01a55702fc914f95722bf8458dd0d586bd3f9c26", func := "blockyard/blockyardlaw07.ArpNobody", spec := "arpNobody", unfollowed := true, recurses := true, apart := false, narrowed := true }
def ArpNobodyUptoSaid : Prop := arpNobodyUptoRow.holds Try.pinned (OpenSpec.upto arpNobodySpec)

/-- 'blockyardlaw07.ArpCaches', WHERE WHAT IT READS IS OF BULK AT MOST 1048576: true; the input reads as it did. -/
def arpCachesUptoRow : OpenClaim := { program := "ytpnhopgfoakgnaa", sum := "a09b48a7f5c39c7ddf566bea01a55702fc914f95722bf8458dd0d586bd3f9c26", func := "blockyard/blockyardlaw07.ArpCaches", spec := "arpCaches", unfollowed := true, recurses := true, apart := false, narrowed := true }
def ArpCachesUptoSaid : Prop := arpCachesUptoRow.holds Try.pinned (OpenSpec.upto arpCachesSpec)

/-- 'blockyardlaw07.ArpKnown', WHERE WHAT IT READS IS OF BULK AT MOST 1048576: true; the input reads as it did. -/
def arpKnownUptoRow : OpenClaim := { program := "ytpnhopgfoakgnaa", sum := "a09b48a7f5c39c7ddf566bea01a55702fc914f95722bf8458dd0d586bd3f9c26", func := "blockyard/blockyardlaw07.ArpKnown", spec := "arpKnown", unfollowed := true, recurses := true, apart := false, narrowed := true }
def ArpKnownUptoSaid : Prop := arpKnownUptoRow.holds Try.pinned (OpenSpec.upto arpKnownSpec)

/-- 'blockyardlaw09.IcmpKnown', WHERE WHAT IT READS IS OF BULK AT MOST 1048576: true; the input reads as it did. -/
def icmpKnownUptoRow : OpenClaim := { program := "ytpnhopgfoakgnaa", sum := "a09b48a7f5c39c7ddf566bea01a55702fc914f95722bf8458dd0d586bd3f9c26", func := "blockyard/blockyardlaw09.IcmpKnown", spec := "icmpKnown", inPlace := ["internal/abi.NoEscape", "internal/bytealg.MakeNoZero"], apart := false, narrowed := true }
def IcmpKnownUptoSaid : Prop := icmpKnownUptoRow.holds Try.pinned (OpenSpec.upto icmpKnownSpec)

end Rows
end Go.Proofs.Ytpnhopgfoakgnaa
