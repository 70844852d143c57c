/-
  No cell of these rows narrows 'for every input' (looked for: loops, veiled, ifaces, maps, wideKeys, modest, calm, conditions, laid).
  DERIVED. THE GIVEN ROWS OF THIS SEAT. 7 by the template 'for every input the law returns true; each argument reads behind the call as it read before'; 0 by the template 'total and deterministic' (their statements: YtfakgiikobajnaaTotals.lean).
  GIVEN WITH THE SEED: the statements are not yours to turn. If you find one false, say at which input.
  Laid BY PROGRAM, IN A SANDBOX (cutbox-rows.mjs): the forced cells as the released guide's own fill.sh prints them over the translation b7fdb1de16f96e96… (all of the seat's roots in one cut). By AI agents, Wed Nov 11 2026. No macro, syntax, notation, axiom, sorry.
-/
import Derived.Test.YtfakgiikobajnaaChecked
import GoSem.Claim
import GoSem.ClaimJoined
import GoSem.ClaimMapViews
import Derived.JoinedTies
import Derived.KernelRfl
namespace Go.Proofs.Ytfakgiikobajnaa
/- THE CELL 'sum', in the pinned program and in every row, IS THE sha256 OF THE DUMP (.gsa) THAT YtfakgiikobajnaaProg.lean LOADS. Nothing in Lean hashes anything: it is a label: what it is worth is what the hold of that sum in a sandbox is worth. -/
noncomputable def Try.pinned : Pinned := { name := "ytfakgiikobajnaa", sum := "b7fdb1de16f96e9630d8a47fa6bad90961b3ef499cc74997d81ce67e4200d42f", checked := Try.checked }
namespace Rows
def none {H : Type} : Left H := { results := [], args := [] }

/-- 'routinglaw27.ElectElects': WHATEVER THE INPUT: true; the input reads as it did. -/
def electElectsSpec : ChangeSpec := { name := "electElects", fn := fun _ => fun
  | [d1, d2] => { results := [.lit (.bool true)], args := [d1, d2] }
  | _ => none }
def electElectsRow : OpenClaim := { program := "ytfakgiikobajnaa", sum := "b7fdb1de16f96e9630d8a47fa6bad90961b3ef499cc74997d81ce67e4200d42f", func := "routing/routinglaw27.ElectElects", spec := "electElects", unfollowed := true, recurses := true, apart := false }
def ElectElectsSaid : Prop := electElectsRow.holds Try.pinned (OpenSpec.ofChange electElectsSpec)

/-- ITS FALSE NEIGHBOUR: 'it returns false'. Refute it at one input. -/
def electElectsWrong : ChangeSpec := { name := "electElects", fn := fun _ => fun
  | [d1, d2] => { results := [.lit (.bool false)], args := [d1, d2] }
  | _ => none }
def ElectElectsWrongFalsely : Prop := electElectsRow.holds Try.pinned (OpenSpec.ofChange electElectsWrong)

/-- 'routinglaw27.ElectEligible': WHATEVER THE INPUT: true; the input reads as it did. -/
def electEligibleSpec : ChangeSpec := { name := "electEligible", fn := fun _ => fun
  | [d1, d2] => { results := [.lit (.bool true)], args := [d1, d2] }
  | _ => none }
def electEligibleRow : OpenClaim := { program := "ytfakgiikobajnaa", sum := "b7fdb1de16f96e9630d8a47fa6bad90961b3ef499cc74997d81ce67e4200d42f", func := "routing/routinglaw27.ElectEligible", spec := "electEligible", unfollowed := true, recurses := true, apart := false }
def ElectEligibleSaid : Prop := electEligibleRow.holds Try.pinned (OpenSpec.ofChange electEligibleSpec)

/-- ITS FALSE NEIGHBOUR: 'it returns false'. Refute it at one input. -/
def electEligibleWrong : ChangeSpec := { name := "electEligible", fn := fun _ => fun
  | [d1, d2] => { results := [.lit (.bool false)], args := [d1, d2] }
  | _ => none }
def ElectEligibleWrongFalsely : Prop := electEligibleRow.holds Try.pinned (OpenSpec.ofChange electEligibleWrong)

/-- 'routinglaw27.ElectStable': WHATEVER THE INPUT: true; the input reads as it did. -/
def electStableSpec : ChangeSpec := { name := "electStable", fn := fun _ => fun
  | [d1, d2] => { results := [.lit (.bool true)], args := [d1, d2] }
  | _ => none }
def electStableRow : OpenClaim := { program := "ytfakgiikobajnaa", sum := "b7fdb1de16f96e9630d8a47fa6bad90961b3ef499cc74997d81ce67e4200d42f", func := "routing/routinglaw27.ElectStable", spec := "electStable", unfollowed := true, recurses := true, apart := false }
def ElectStableSaid : Prop := electStableRow.holds Try.pinned (OpenSpec.ofChange electStableSpec)

/-- ITS FALSE NEIGHBOUR: 'it returns false'. Refute it at one input. -/
def electStableWrong : ChangeSpec := { name := "electStable", fn := fun _ => fun
  | [d1, d2] => { results := [.lit (.bool false)], args := [d1, d2] }
  | _ => none }
def ElectStableWrongFalsely : Prop := electStableRow.holds Try.pinned (OpenSpec.ofChange electStableWrong)

/-- 'routinglaw27.ElectAgrees': WHATEVER THE INPUT: true; the input reads as it did. -/
def electAgreesSpec : ChangeSpec := { name := "electAgrees", fn := fun _ => fun
  | [d1, d2, d3, d4] => { results := [.lit (.bool true)], args := [d1, d2, d3, d4] }
  | _ => none }
def electAgreesRow : OpenClaim := { program := "ytfakgiikobajnaa", sum := "b7fdb1de16f96e9630d8a47fa6bad90961b3ef499cc74997d81ce67e4200d42f", func := "routing/routinglaw27.ElectAgrees", spec := "electAgrees", unfollowed := true, recurses := true, apart := false }
def ElectAgreesSaid : Prop := electAgreesRow.holds Try.pinned (OpenSpec.ofChange electAgreesSpec)

/-- ITS FALSE NEIGHBOUR: 'it returns false'. Refute it at one input. -/
def electAgreesWrong : ChangeSpec := { name := "electAgrees", fn := fun _ => fun
  | [d1, d2, d3, d4] => { results := [.lit (.bool false)], args := [d1, d2, d3, d4] }
  | _ => none }
def ElectAgreesWrongFalsely : Prop := electAgreesRow.holds Try.pinned (OpenSpec.ofChange electAgreesWrong)

/-- 'routinglaw27.ElectOrder': WHATEVER THE INPUT: true; the input reads as it did. -/
def electOrderSpec : ChangeSpec := { name := "electOrder", fn := fun _ => fun
  | [d1, d2, d3, d4] => { results := [.lit (.bool true)], args := [d1, d2, d3, d4] }
  | _ => none }
def electOrderRow : OpenClaim := { program := "ytfakgiikobajnaa", sum := "b7fdb1de16f96e9630d8a47fa6bad90961b3ef499cc74997d81ce67e4200d42f", func := "routing/routinglaw27.ElectOrder", spec := "electOrder", unfollowed := true, recurses := true, apart := false }
def ElectOrderSaid : Prop := electOrderRow.holds Try.pinned (OpenSpec.ofChange electOrderSpec)

/-- ITS FALSE NEIGHBOUR: 'it returns false'. Refute it at one input. -/
def electOrderWrong : ChangeSpec := { name := "electOrder", fn := fun _ => fun
  | [d1, d2, d3, d4] => { results := [.lit (.bool false)], args := [d1, d2, d3, d4] }
  | _ => none }
def ElectOrderWrongFalsely : Prop := electOrderRow.holds Try.pinned (OpenSpec.ofChange electOrderWrong)

/-- 'routinglaw27.ElectCandidates': WHATEVER THE INPUT: true; the input reads as it did. -/
def electCandidatesSpec : ChangeSpec := { name := "electCandidates", fn := fun _ => fun
  | [d1, d2] => { results := [.lit (.bool true)], args := [d1, d2] }
  | _ => none }
def electCandidatesRow : OpenClaim := { program := "ytfakgiikobajnaa", sum := "b7fdb1de16f96e9630d8a47fa6bad90961b3ef499cc74997d81ce67e4200d42f", func := "routing/routinglaw27.ElectCandidates", spec := "electCandidates", unfollowed := true, recurses := true, apart := false }
def ElectCandidatesSaid : Prop := electCandidatesRow.holds Try.pinned (OpenSpec.ofChange electCandidatesSpec)

/-- ITS FALSE NEIGHBOUR: 'it returns false'. Refute it at one input. -/
def electCandidatesWrong : ChangeSpec := { name := "electCandidates", fn := fun _ => fun
  | [d1, d2] => { results := [.lit (.bool false)], args := [d1, d2] }
  | _ => none }
def ElectCandidatesWrongFalsely : Prop := electCandidatesRow.holds Try.pinned (OpenSpec.ofChange electCandidatesWrong)

/-- 'routinglaw27.ElectRuns': WHATEVER THE INPUT: true; the input reads as it did. -/
def electRunsSpec : ChangeSpec := { name := "electRuns", fn := fun _ => fun
  | [d1, d2] => { results := [.lit (.bool true)], args := [d1, d2] }
  | _ => none }
def electRunsRow : OpenClaim := { program := "ytfakgiikobajnaa", sum := "b7fdb1de16f96e9630d8a47fa6bad90961b3ef499cc74997d81ce67e4200d42f", func := "routing/routinglaw27.ElectRuns", spec := "electRuns", unfollowed := true, recurses := true, apart := false }
def ElectRunsSaid : Prop := electRunsRow.holds Try.pinned (OpenSpec.ofChange electRunsSpec)

/-- ITS FALSE NEIGHBOUR: 'it returns false'. Refute it at one input. -/
def electRunsWrong : ChangeSpec := { name := "electRuns", fn := fun _ => fun
  | [d1, d2] => { results := [.lit (.bool false)], args := [d1, d2] }
  | _ => none }
def ElectRunsWrongFalsely : Prop := electRunsRow.holds Try.pinned (OpenSpec.ofChange electRunsWrong)

/- THE SECOND FORM. 'bulk': how many values and letters a reading holds, each counted each time it is reached (what is shared counts as often as it is met; a slice's spare places count too). A statement '..UptoSaid' is the law's where the arguments, and the package variables that the reading takes, are together of bulk at most 1048576: NARROWER than '..Said'. Prove '..Said' where nothing that the law and all that it calls make is longer than what came in: it says more and counts as full. Else prove '..UptoSaid'. A law counts once. -/
mutual
def uptoBulk {H : Type} : DataW H → Nat
  | .lit (.string bytes) => bytes.length + 1
  | .lit _ => 1
  | .nil => 1
  | .ptr d => uptoBulk d + 1
  | .slice elems spare => uptoBulkAll elems + uptoBulkAll spare + 1
  | .agg parts => uptoBulkAll parts + 1
  | .iface _ d => uptoBulk d + 1
  | .map entries => uptoBulkEntries entries + 1
  | .held _ => 1
def uptoBulkAll {H : Type} : List (DataW H) → Nat
  | [] => 0
  | d :: r => uptoBulk d + uptoBulkAll r
def uptoBulkEntries {H : Type} : List (Lit × DataW H) → Nat
  | [] => 0
  | x :: r => uptoBulkEntry x + uptoBulkEntries r
def uptoBulkEntry {H : Type} : Lit × DataW H → Nat
  | (.string bytes, d) => bytes.length + uptoBulk d + 1
  | (_, d) => uptoBulk d + 1
 end
def uptoSmall : (H : Type) → List (DataW H) → Bool := fun _ ds => decide (uptoBulkAll ds ≤ 1048576)
def OpenSpec.upto (s : _root_.Go.ChangeSpec) : _root_.Go.OpenSpec := { _root_.Go.OpenSpec.ofChange s with cond := some uptoSmall }

/-- 'routinglaw27.ElectElects', WHERE WHAT IT READS IS OF BULK AT MOST 1048576: true; the input reads as it did. -/
def electElectsUptoRow : OpenClaim := { program := "ytfakgiikobajnaa", sum := "b7fdb1de16f96e9630d8a47fa6bad90961b3ef499cc74997d81ce67e4200d42f", func := "routing/routinglaw27.ElectElects", spec := "electElects", unfollowed := true, recurses := true, apart := false, narrowed := true }
def ElectElectsUptoSaid : Prop := electElectsUptoRow.holds Try.pinned (OpenSpec.upto electElectsSpec)

/-- 'routinglaw27.ElectEligible', WHERE WHAT IT READS IS OF BULK AT MOST 1048576: true; the input reads as it did. -/
def electEligibleUptoRow : OpenClaim := { program := "ytfakgiikobajnaa", sum := "b7fdb1de16f96e9630d8a47fa6bad90961b3ef499cc74997d81ce67e4200d42f", func := "routing/routinglaw27.ElectEligible", spec := "electEligible", unfollowed := true, recurses := true, apart := false, narrowed := true }
def ElectEligibleUptoSaid : Prop := electEligibleUptoRow.holds Try.pinned (OpenSpec.upto electEligibleSpec)

/-- 'routinglaw27.ElectStable', WHERE WHAT IT READS IS OF BULK AT MOST 1048576: true; the input reads as it did. -/
def electStableUptoRow : OpenClaim := { program := "ytfakgiikobajnaa", sum := "b7fdb1de16f96e9630d8a47fa6bad90961b3ef499cc74997d81ce67e4200d42f", func := "routing/routinglaw27.ElectStable", spec := "electStable", unfollowed := true, recurses := true, apart := false, narrowed := true }
def ElectStableUptoSaid : Prop := electStableUptoRow.holds Try.pinned (OpenSpec.upto electStableSpec)

/-- 'routinglaw27.ElectAgrees', WHERE WHAT IT READS IS OF BULK AT MOST 1048576: true; the input reads as it did. -/
def electAgreesUptoRow : OpenClaim := { program := "ytfakgiikobajnaa", sum := "b7fdb1de16f96e9630d8a47fa6bad90961b3ef499cc74997d81ce67e4200d42f", func := "routing/routinglaw27.ElectAgrees", spec := "electAgrees", unfollowed := true, recurses := true, apart := false, narrowed := true }
def ElectAgreesUptoSaid : Prop := electAgreesUptoRow.holds Try.pinned (OpenSpec.upto electAgreesSpec)

/-- 'routinglaw27.ElectOrder', WHERE WHAT IT READS IS OF BULK AT MOST 1048576: true; the input reads as it did. -/
def electOrderUptoRow : OpenClaim := { program := "ytfakgiikobajnaa", sum := "b7fdb1de16f96e9630d8a47fa6bad90961b3ef499cc74997d81ce67e4200d42f", func := "routing/routinglaw27.ElectOrder", spec := "electOrder", unfollowed := true, recurses := true, apart := false, narrowed := true }
def ElectOrderUptoSaid : Prop := electOrderUptoRow.holds Try.pinned (OpenSpec.upto electOrderSpec)

/-- 'routinglaw27.ElectCandidates', WHERE WHAT IT READS IS OF BULK AT MOST 1048576: true; the input reads as it did. -/
def electCandidatesUptoRow : OpenClaim := { program := "ytfakgiikobajnaa", sum := "b7fdb1de16f96e9630d8a47fa6bad90961b3ef499cc74997d81ce67e4200d42f", func := "routing/routinglaw27.ElectCandidates", spec := "electCandidates", unfollowed := true, recurses := true, apart := false, narrowed := true }
def ElectCandidatesUptoSaid : Prop := electCandidatesUptoRow.holds Try.pinned (OpenSpec.upto electCandidatesSpec)

/-- 'routinglaw27.ElectRuns', WHERE WHAT IT READS IS OF BULK AT MOST 1048576: true; the input reads as it did. -/
def electRunsUptoRow : OpenClaim := { program := "ytfakgiikobajnaa", sum := "b7fdb1de16f96e9630d8a47fa6bad90961b3ef499cc74997d81ce67e4200d42f", func := "routing/routinglaw27.ElectRuns", spec := "electRuns", unfollowed := true, recurses := true, apart := false, narrowed := true }
def ElectRunsUptoSaid : Prop := electRunsUptoRow.holds Try.pinned (OpenSpec.upto electRunsSpec)

end Rows
end Go.Proofs.Ytfakgiikobajnaa
