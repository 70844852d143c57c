/-
  No cell of these rows narrows 'for every input' (looked for: loops, veiled, ifaces, maps, wideKeys, modest, calm, conditions, laid).
  DERIVED. THE GIVEN ROWS OF THIS SEAT. 7 by the template 'for every input the law returns true; each argument reads behind the call as it read before'; 0 by the template 'total and deterministic' (their statements: YtkiidmbkibfbiaaTotals.lean).
  GIVEN WITH THE SEED: the statements are not yours to turn. If you find one false, say at which input.
  Laid BY PROGRAM, IN A SANDBOX (cutbox-rows.mjs): the forced cells as the released guide's own fill.sh prints them over the translation a405a34c484d052d… (all of the seat's roots in one cut). By AI agents, Wed Nov 11 2026. No macro, syntax, notation, axiom, sorry.
-/
import Derived.Test.YtkiidmbkibfbiaaChecked
import GoSem.Claim
import GoSem.ClaimJoined
import GoSem.ClaimMapViews
import Derived.JoinedTies
import Derived.KernelRfl
namespace Go.Proofs.Ytkiidmbkibfbiaa
/- THE CELL 'sum', in the pinned program and in every row, IS THE sha256 OF THE DUMP (.gsa) THAT YtkiidmbkibfbiaaProg.lean LOADS. Nothing in Lean hashes anything: it is a label: what it is worth is what the hold of that sum in a sandbox is worth. -/
noncomputable def Try.pinned : Pinned := { name := "ytkiidmbkibfbiaa", sum := "a405a34c484d052d7d6e35b14460f8b1161cda7f47933de2cc1096e94cd6b689", checked := Try.checked }
namespace Rows
def none {H : Type} : Left H := { results := [], args := [] }

/-- 'routinglaw07.AggregateChecks': WHATEVER THE INPUT: true; the input reads as it did. -/
def aggregateChecksSpec : ChangeSpec := { name := "aggregateChecks", fn := fun _ => fun
  | [d1, d2] => { results := [.lit (.bool true)], args := [d1, d2] }
  | _ => none }
def aggregateChecksRow : OpenClaim := { program := "ytkiidmbkibfbiaa", sum := "a405a34c484d052d7d6e35b14460f8b1161cda7f47933de2cc1096e94cd6b689", func := "routing/routinglaw07.AggregateChecks", spec := "aggregateChecks", unfollowed := true, recurses := true, apart := false }
def AggregateChecksSaid : Prop := aggregateChecksRow.holds Try.pinned (OpenSpec.ofChange aggregateChecksSpec)

/-- ITS FALSE NEIGHBOUR: 'it returns false'. Refute it at one input. -/
def aggregateChecksWrong : ChangeSpec := { name := "aggregateChecks", fn := fun _ => fun
  | [d1, d2] => { results := [.lit (.bool false)], args := [d1, d2] }
  | _ => none }
def AggregateChecksWrongFalsely : Prop := aggregateChecksRow.holds Try.pinned (OpenSpec.ofChange aggregateChecksWrong)

/-- 'routinglaw07.AggregateDiffers': WHATEVER THE INPUT: true; the input reads as it did. -/
def aggregateDiffersSpec : ChangeSpec := { name := "aggregateDiffers", fn := fun _ => fun
  | [d1, d2] => { results := [.lit (.bool true)], args := [d1, d2] }
  | _ => none }
def aggregateDiffersRow : OpenClaim := { program := "ytkiidmbkibfbiaa", sum := "a405a34c484d052d7d6e35b14460f8b1161cda7f47933de2cc1096e94cd6b689", func := "routing/routinglaw07.AggregateDiffers", spec := "aggregateDiffers", unfollowed := true, recurses := true, apart := false }
def AggregateDiffersSaid : Prop := aggregateDiffersRow.holds Try.pinned (OpenSpec.ofChange aggregateDiffersSpec)

/-- ITS FALSE NEIGHBOUR: 'it returns false'. Refute it at one input. -/
def aggregateDiffersWrong : ChangeSpec := { name := "aggregateDiffers", fn := fun _ => fun
  | [d1, d2] => { results := [.lit (.bool false)], args := [d1, d2] }
  | _ => none }
def AggregateDiffersWrongFalsely : Prop := aggregateDiffersRow.holds Try.pinned (OpenSpec.ofChange aggregateDiffersWrong)

/-- 'routinglaw07.AggregateTrims': WHATEVER THE INPUT: true; the input reads as it did. -/
def aggregateTrimsSpec : ChangeSpec := { name := "aggregateTrims", fn := fun _ => fun
  | [d] => { results := [.lit (.bool true)], args := [d] }
  | _ => none }
def aggregateTrimsRow : OpenClaim := { program := "ytkiidmbkibfbiaa", sum := "a405a34c484d052d7d6e35b14460f8b1161cda7f47933de2cc1096e94cd6b689", func := "routing/routinglaw07.AggregateTrims", spec := "aggregateTrims", unfollowed := true, recurses := true, apart := false }
def AggregateTrimsSaid : Prop := aggregateTrimsRow.holds Try.pinned (OpenSpec.ofChange aggregateTrimsSpec)

/-- ITS FALSE NEIGHBOUR: 'it returns false'. Refute it at one input. -/
def aggregateTrimsWrong : ChangeSpec := { name := "aggregateTrims", fn := fun _ => fun
  | [d] => { results := [.lit (.bool false)], args := [d] }
  | _ => none }
def AggregateTrimsWrongFalsely : Prop := aggregateTrimsRow.holds Try.pinned (OpenSpec.ofChange aggregateTrimsWrong)

/-- 'routinglaw07.AggregateMinimal': WHATEVER THE INPUT: true; the input reads as it did. -/
def aggregateMinimalSpec : ChangeSpec := { name := "aggregateMinimal", fn := fun _ => fun
  | [d] => { results := [.lit (.bool true)], args := [d] }
  | _ => none }
def aggregateMinimalRow : OpenClaim := { program := "ytkiidmbkibfbiaa", sum := "a405a34c484d052d7d6e35b14460f8b1161cda7f47933de2cc1096e94cd6b689", func := "routing/routinglaw07.AggregateMinimal", spec := "aggregateMinimal", unfollowed := true, recurses := true, apart := false }
def AggregateMinimalSaid : Prop := aggregateMinimalRow.holds Try.pinned (OpenSpec.ofChange aggregateMinimalSpec)

/-- ITS FALSE NEIGHBOUR: 'it returns false'. Refute it at one input. -/
def aggregateMinimalWrong : ChangeSpec := { name := "aggregateMinimal", fn := fun _ => fun
  | [d] => { results := [.lit (.bool false)], args := [d] }
  | _ => none }
def AggregateMinimalWrongFalsely : Prop := aggregateMinimalRow.holds Try.pinned (OpenSpec.ofChange aggregateMinimalWrong)

/-- 'routinglaw07.AggregateLeast': WHATEVER THE INPUT: true; the input reads as it did. -/
def aggregateLeastSpec : ChangeSpec := { name := "aggregateLeast", fn := fun _ => fun
  | [d1, d2] => { results := [.lit (.bool true)], args := [d1, d2] }
  | _ => none }
def aggregateLeastRow : OpenClaim := { program := "ytkiidmbkibfbiaa", sum := "a405a34c484d052d7d6e35b14460f8b1161cda7f47933de2cc1096e94cd6b689", func := "routing/routinglaw07.AggregateLeast", spec := "aggregateLeast", unfollowed := true, recurses := true, apart := false }
def AggregateLeastSaid : Prop := aggregateLeastRow.holds Try.pinned (OpenSpec.ofChange aggregateLeastSpec)

/-- ITS FALSE NEIGHBOUR: 'it returns false'. Refute it at one input. -/
def aggregateLeastWrong : ChangeSpec := { name := "aggregateLeast", fn := fun _ => fun
  | [d1, d2] => { results := [.lit (.bool false)], args := [d1, d2] }
  | _ => none }
def AggregateLeastWrongFalsely : Prop := aggregateLeastRow.holds Try.pinned (OpenSpec.ofChange aggregateLeastWrong)

/-- 'routinglaw07.AggregateTrimmed': WHATEVER THE INPUT: true; the input reads as it did. -/
def aggregateTrimmedSpec : ChangeSpec := { name := "aggregateTrimmed", fn := fun _ => fun
  | [d] => { results := [.lit (.bool true)], args := [d] }
  | _ => none }
def aggregateTrimmedRow : OpenClaim := { program := "ytkiidmbkibfbiaa", sum := "a405a34c484d052d7d6e35b14460f8b1161cda7f47933de2cc1096e94cd6b689", func := "routing/routinglaw07.AggregateTrimmed", spec := "aggregateTrimmed", unfollowed := true, recurses := true, apart := false }
def AggregateTrimmedSaid : Prop := aggregateTrimmedRow.holds Try.pinned (OpenSpec.ofChange aggregateTrimmedSpec)

/-- ITS FALSE NEIGHBOUR: 'it returns false'. Refute it at one input. -/
def aggregateTrimmedWrong : ChangeSpec := { name := "aggregateTrimmed", fn := fun _ => fun
  | [d] => { results := [.lit (.bool false)], args := [d] }
  | _ => none }
def AggregateTrimmedWrongFalsely : Prop := aggregateTrimmedRow.holds Try.pinned (OpenSpec.ofChange aggregateTrimmedWrong)

/-- 'routinglaw07.AggregateFirst': WHATEVER THE INPUT: true; the input reads as it did. -/
def aggregateFirstSpec : ChangeSpec := { name := "aggregateFirst", fn := fun _ => fun
  | [d1, d2, d3] => { results := [.lit (.bool true)], args := [d1, d2, d3] }
  | _ => none }
def aggregateFirstRow : OpenClaim := { program := "ytkiidmbkibfbiaa", sum := "a405a34c484d052d7d6e35b14460f8b1161cda7f47933de2cc1096e94cd6b689", func := "routing/routinglaw07.AggregateFirst", spec := "aggregateFirst", unfollowed := true, recurses := true, apart := false }
def AggregateFirstSaid : Prop := aggregateFirstRow.holds Try.pinned (OpenSpec.ofChange aggregateFirstSpec)

/-- ITS FALSE NEIGHBOUR: 'it returns false'. Refute it at one input. -/
def aggregateFirstWrong : ChangeSpec := { name := "aggregateFirst", fn := fun _ => fun
  | [d1, d2, d3] => { results := [.lit (.bool false)], args := [d1, d2, d3] }
  | _ => none }
def AggregateFirstWrongFalsely : Prop := aggregateFirstRow.holds Try.pinned (OpenSpec.ofChange aggregateFirstWrong)

/- THE SECOND FORM. 'bulk': how many values and letters a reading holds, each counted each time it is reached (what is shared counts as often as it is met; a slice's spare places count too). A statement '..UptoSaid' is the law's where the arguments, and the package variables that the reading takes, are together of bulk at most 1048576: NARROWER than '..Said'. Prove '..Said' where nothing that the law and all that it calls make is longer than what came in: it says more and counts as full. Else prove '..UptoSaid'. A law counts once. -/
mutual
def uptoBulk {H : Type} : DataW H → Nat
  | .lit (.string bytes) => bytes.length + 1
  | .lit _ => 1
  | .nil => 1
  | .ptr d => uptoBulk d + 1
  | .slice elems spare => uptoBulkAll elems + uptoBulkAll spare + 1
  | .agg parts => uptoBulkAll parts + 1
  | .iface _ d => uptoBulk d + 1
  | .map entries => uptoBulkEntries entries + 1
  | .held _ => 1
def uptoBulkAll {H : Type} : List (DataW H) → Nat
  | [] => 0
  | d :: r => uptoBulk d + uptoBulkAll r
def uptoBulkEntries {H : Type} : List (Lit × DataW H) → Nat
  | [] => 0
  | x :: r => uptoBulkEntry x + uptoBulkEntries r
def uptoBulkEntry {H : Type} : Lit × DataW H → Nat
  | (.string bytes, d) => bytes.length + uptoBulk d + 1
  | (_, d) => uptoBulk d + 1
 end
def uptoSmall : (H : Type) → List (DataW H) → Bool := fun _ ds => decide (uptoBulkAll ds ≤ 1048576)
def OpenSpec.upto (s : _root_.Go.ChangeSpec) : _root_.Go.OpenSpec := { _root_.Go.OpenSpec.ofChange s with cond := some uptoSmall }

/-- 'routinglaw07.AggregateChecks', WHERE WHAT IT READS IS OF BULK AT MOST 1048576: true; the input reads as it did. -/
def aggregateChecksUptoRow : OpenClaim := { program := "ytkiidmbkibfbiaa", sum := "a405a34c484d052d7d6e35b14460f8b1161cda7f47933de2cc1096e94cd6b689", func := "routing/routinglaw07.AggregateChecks", spec := "aggregateChecks", unfollowed := true, recurses := true, apart := false, narrowed := true }
def AggregateChecksUptoSaid : Prop := aggregateChecksUptoRow.holds Try.pinned (OpenSpec.upto aggregateChecksSpec)

/-- 'routinglaw07.AggregateDiffers', WHERE WHAT IT READS IS OF BULK AT MOST 1048576: true; the input reads as it did. -/
def aggregateDiffersUptoRow : OpenClaim := { program := "ytkiidmbkibfbiaa", sum := "a405a34c484d052d7d6e35b14460f8b1161cda7f47933de2cc1096e94cd6b689", func := "routing/routinglaw07.AggregateDiffers", spec := "aggregateDiffers", unfollowed := true, recurses := true, apart := false, narrowed := true }
def AggregateDiffersUptoSaid : Prop := aggregateDiffersUptoRow.holds Try.pinned (OpenSpec.upto aggregateDiffersSpec)

/-- 'routinglaw07.AggregateTrims', WHERE WHAT IT READS IS OF BULK AT MOST 1048576: true; the input reads as it did. -/
def aggregateTrimsUptoRow : OpenClaim := { program := "ytkiidmbkibfbiaa", sum := "a405a34c484d052d7d6e35b14460f8b1161cda7f47933de2cc1096e94cd6b689", func := "routing/routinglaw07.AggregateTrims", spec := "aggregateTrims", unfollowed := true, recurses := true, apart := false, narrowed := true }
def AggregateTrimsUptoSaid : Prop := aggregateTrimsUptoRow.holds Try.pinned (OpenSpec.upto aggregateTrimsSpec)

/-- 'routinglaw07.AggregateMinimal', WHERE WHAT IT READS IS OF BULK AT MOST 1048576: true; the input reads as it did. -/
def aggregateMinimalUptoRow : OpenClaim := { program := "ytkiidmbkibfbiaa", sum := "a405a34c484d052d7d6e35b14460f8b1161cda7f47933de2cc1096e94cd6b689", func := "routing/routinglaw07.AggregateMinimal", spec := "aggregateMinimal", unfollowed := true, recurses := true, apart := false, narrowed := true }
def AggregateMinimalUptoSaid : Prop := aggregateMinimalUptoRow.holds Try.pinned (OpenSpec.upto aggregateMinimalSpec)

/-- 'routinglaw07.AggregateLeast', WHERE WHAT IT READS IS OF BULK AT MOST 1048576: true; the input reads as it did. -/
def aggregateLeastUptoRow : OpenClaim := { program := "ytkiidmbkibfbiaa", sum := "a405a34c484d052d7d6e35b14460f8b1161cda7f47933de2cc1096e94cd6b689", func := "routing/routinglaw07.AggregateLeast", spec := "aggregateLeast", unfollowed := true, recurses := true, apart := false, narrowed := true }
def AggregateLeastUptoSaid : Prop := aggregateLeastUptoRow.holds Try.pinned (OpenSpec.upto aggregateLeastSpec)

/-- 'routinglaw07.AggregateTrimmed', WHERE WHAT IT READS IS OF BULK AT MOST 1048576: true; the input reads as it did. -/
def aggregateTrimmedUptoRow : OpenClaim := { program := "ytkiidmbkibfbiaa", sum := "a405a34c484d052d7d6e35b14460f8b1161cda7f47933de2cc1096e94cd6b689", func := "routing/routinglaw07.AggregateTrimmed", spec := "aggregateTrimmed", unfollowed := true, recurses := true, apart := false, narrowed := true }
def AggregateTrimmedUptoSaid : Prop := aggregateTrimmedUptoRow.holds Try.pinned (OpenSpec.upto aggregateTrimmedSpec)

/-- 'routinglaw07.AggregateFirst', WHERE WHAT IT READS IS OF BULK AT MOST 1048576: true; the input reads as it did. -/
def aggregateFirstUptoRow : OpenClaim := { program := "ytkiidmbkibfbiaa", sum := "a405a34c484d052d7d6e35b14460f8b1161cda7f47933de2cc1096e94cd6b689", func := "routing/routinglaw07.AggregateFirst", spec := "aggregateFirst", unfollowed := true, recurses := true, apart := false, narrowed := true }
def AggregateFirstUptoSaid : Prop := aggregateFirstUptoRow.holds Try.pinned (OpenSpec.upto aggregateFirstSpec)

end Rows
end Go.Proofs.Ytkiidmbkibfbiaa
