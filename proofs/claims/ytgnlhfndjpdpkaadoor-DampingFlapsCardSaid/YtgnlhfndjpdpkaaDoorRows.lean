/-
  NARROWER THAN 'FOR EVERY INPUT', by the rows' own cells (each row's printed sentence says how): DampingCheck: laid · DampingDecay: laid · DampingFlaps: laid · DampingReuse: laid · DampingFalls: laid · DampingBound: laid · DampingHalves: laid.
  DERIVED. THE GIVEN ROWS OF THIS SEAT. 7 by the template 'for every input the law returns true; each argument reads behind the call as it read before'; 0 by the template 'total and deterministic' (their statements: YtgnlhfndjpdpkaaDoorTotals.lean).
  GIVEN WITH THE SEED: the statements are not yours to turn. If you find one false, say at which input.
  Laid BY PROGRAM, IN A SANDBOX (cutbox-rows.mjs): the forced cells as the released guide's own fill.sh prints them over the translation 53d7db981522f757… (all of the seat's roots in one cut). By AI agents, Wed Nov 11 2026. No macro, syntax, notation, axiom, sorry.
-/
import Derived.Test.YtgnlhfndjpdpkaaDoorChecked
import GoSem.Claim
import GoSem.ClaimJoined
import GoSem.ClaimMapViews
import Derived.JoinedTies
import Derived.KernelRfl
namespace Go.Proofs.YtgnlhfndjpdpkaaDoor
/- THE CELL 'sum', in the pinned program and in every row, IS THE sha256 OF THE DUMP (.gsa) THAT YtgnlhfndjpdpkaaDoorProg.lean LOADS. Nothing in Lean hashes anything: it is a label: what it is worth is what the hold of that sum in a sandbox is worth. -/
noncomputable def Tryd.pinned : Pinned := { name := "ytgnlhfndjpdpkaadoor", sum := "53d7db981522f757449903f9ec3c7fdafd2858d46271c88d2d32f3976319923e", checked := Tryd.checked }
namespace Rows
def none {H : Type} : Left H := { results := [], args := [] }

/- WHAT THE LISTED PACKAGE-LEVEL VARIABLES READ AS WHEN THE CALL BEGINS. Each datum BY PROGRAM (the guide's laid-datum.mjs) off the statement by which the dump's own 'gosem.cut.vars' lays the variable. In a bare row this is a premise. The card (YtgnlhfndjpdpkaaDoorCards.lean) ties it to the program's text. -/
def laid_routing_damping_penalties {H : Type} : DataW H := .agg [.lit (.int .i64 1000), .lit (.int .i64 500)]

/-- 'routinglaw42.DampingCheck': WHATEVER THE INPUT: true; the input reads as it did. -/
def dampingCheckSpec : ChangeSpec := { name := "dampingCheck", fn := fun _ => fun
  | [d] => { results := [.lit (.bool true)], args := [d] }
  | _ => none }
def dampingCheckRow : OpenClaim := { program := "ytgnlhfndjpdpkaadoor", sum := "53d7db981522f757449903f9ec3c7fdafd2858d46271c88d2d32f3976319923e", func := "routing/routinglaw42.DampingCheck", spec := "dampingCheck", unfollowed := true, recurses := true, named := ["routing/damping.penalties"], apart := false, laid := [("routing/damping.penalties", laid_routing_damping_penalties)] }
def DampingCheckSaid : Prop := dampingCheckRow.holds Tryd.pinned (OpenSpec.ofChange dampingCheckSpec)

/-- ITS FALSE NEIGHBOUR: 'it returns false'. Refute it at one input. -/
def dampingCheckWrong : ChangeSpec := { name := "dampingCheck", fn := fun _ => fun
  | [d] => { results := [.lit (.bool false)], args := [d] }
  | _ => none }
def DampingCheckWrongFalsely : Prop := dampingCheckRow.holds Tryd.pinned (OpenSpec.ofChange dampingCheckWrong)

/-- 'routinglaw42.DampingDecay': WHATEVER THE INPUT: true; the input reads as it did. -/
def dampingDecaySpec : ChangeSpec := { name := "dampingDecay", fn := fun _ => fun
  | [d1, d2, d3] => { results := [.lit (.bool true)], args := [d1, d2, d3] }
  | _ => none }
def dampingDecayRow : OpenClaim := { program := "ytgnlhfndjpdpkaadoor", sum := "53d7db981522f757449903f9ec3c7fdafd2858d46271c88d2d32f3976319923e", func := "routing/routinglaw42.DampingDecay", spec := "dampingDecay", unfollowed := true, recurses := true, named := ["routing/damping.penalties"], apart := false, laid := [("routing/damping.penalties", laid_routing_damping_penalties)] }
def DampingDecaySaid : Prop := dampingDecayRow.holds Tryd.pinned (OpenSpec.ofChange dampingDecaySpec)

/-- ITS FALSE NEIGHBOUR: 'it returns false'. Refute it at one input. -/
def dampingDecayWrong : ChangeSpec := { name := "dampingDecay", fn := fun _ => fun
  | [d1, d2, d3] => { results := [.lit (.bool false)], args := [d1, d2, d3] }
  | _ => none }
def DampingDecayWrongFalsely : Prop := dampingDecayRow.holds Tryd.pinned (OpenSpec.ofChange dampingDecayWrong)

/-- 'routinglaw42.DampingFlaps': WHATEVER THE INPUT: true; the input reads as it did. -/
def dampingFlapsSpec : ChangeSpec := { name := "dampingFlaps", fn := fun _ => fun
  | [d1, d2, d3] => { results := [.lit (.bool true)], args := [d1, d2, d3] }
  | _ => none }
def dampingFlapsRow : OpenClaim := { program := "ytgnlhfndjpdpkaadoor", sum := "53d7db981522f757449903f9ec3c7fdafd2858d46271c88d2d32f3976319923e", func := "routing/routinglaw42.DampingFlaps", spec := "dampingFlaps", unfollowed := true, recurses := true, named := ["routing/damping.penalties"], apart := false, laid := [("routing/damping.penalties", laid_routing_damping_penalties)] }
def DampingFlapsSaid : Prop := dampingFlapsRow.holds Tryd.pinned (OpenSpec.ofChange dampingFlapsSpec)

/-- ITS FALSE NEIGHBOUR: 'it returns false'. Refute it at one input. -/
def dampingFlapsWrong : ChangeSpec := { name := "dampingFlaps", fn := fun _ => fun
  | [d1, d2, d3] => { results := [.lit (.bool false)], args := [d1, d2, d3] }
  | _ => none }
def DampingFlapsWrongFalsely : Prop := dampingFlapsRow.holds Tryd.pinned (OpenSpec.ofChange dampingFlapsWrong)

/-- 'routinglaw42.DampingReuse': WHATEVER THE INPUT: true; the input reads as it did. -/
def dampingReuseSpec : ChangeSpec := { name := "dampingReuse", fn := fun _ => fun
  | [d1, d2] => { results := [.lit (.bool true)], args := [d1, d2] }
  | _ => none }
def dampingReuseRow : OpenClaim := { program := "ytgnlhfndjpdpkaadoor", sum := "53d7db981522f757449903f9ec3c7fdafd2858d46271c88d2d32f3976319923e", func := "routing/routinglaw42.DampingReuse", spec := "dampingReuse", unfollowed := true, recurses := true, named := ["routing/damping.penalties"], apart := false, laid := [("routing/damping.penalties", laid_routing_damping_penalties)] }
def DampingReuseSaid : Prop := dampingReuseRow.holds Tryd.pinned (OpenSpec.ofChange dampingReuseSpec)

/-- ITS FALSE NEIGHBOUR: 'it returns false'. Refute it at one input. -/
def dampingReuseWrong : ChangeSpec := { name := "dampingReuse", fn := fun _ => fun
  | [d1, d2] => { results := [.lit (.bool false)], args := [d1, d2] }
  | _ => none }
def DampingReuseWrongFalsely : Prop := dampingReuseRow.holds Tryd.pinned (OpenSpec.ofChange dampingReuseWrong)

/-- 'routinglaw42.DampingFalls': WHATEVER THE INPUT: true; the input reads as it did. -/
def dampingFallsSpec : ChangeSpec := { name := "dampingFalls", fn := fun _ => fun
  | [d1, d2, d3] => { results := [.lit (.bool true)], args := [d1, d2, d3] }
  | _ => none }
def dampingFallsRow : OpenClaim := { program := "ytgnlhfndjpdpkaadoor", sum := "53d7db981522f757449903f9ec3c7fdafd2858d46271c88d2d32f3976319923e", func := "routing/routinglaw42.DampingFalls", spec := "dampingFalls", unfollowed := true, recurses := true, named := ["routing/damping.penalties"], apart := false, laid := [("routing/damping.penalties", laid_routing_damping_penalties)] }
def DampingFallsSaid : Prop := dampingFallsRow.holds Tryd.pinned (OpenSpec.ofChange dampingFallsSpec)

/-- ITS FALSE NEIGHBOUR: 'it returns false'. Refute it at one input. -/
def dampingFallsWrong : ChangeSpec := { name := "dampingFalls", fn := fun _ => fun
  | [d1, d2, d3] => { results := [.lit (.bool false)], args := [d1, d2, d3] }
  | _ => none }
def DampingFallsWrongFalsely : Prop := dampingFallsRow.holds Tryd.pinned (OpenSpec.ofChange dampingFallsWrong)

/-- 'routinglaw42.DampingBound': WHATEVER THE INPUT: true; the input reads as it did. -/
def dampingBoundSpec : ChangeSpec := { name := "dampingBound", fn := fun _ => fun
  | [d1, d2] => { results := [.lit (.bool true)], args := [d1, d2] }
  | _ => none }
def dampingBoundRow : OpenClaim := { program := "ytgnlhfndjpdpkaadoor", sum := "53d7db981522f757449903f9ec3c7fdafd2858d46271c88d2d32f3976319923e", func := "routing/routinglaw42.DampingBound", spec := "dampingBound", unfollowed := true, recurses := true, named := ["routing/damping.penalties"], apart := false, laid := [("routing/damping.penalties", laid_routing_damping_penalties)] }
def DampingBoundSaid : Prop := dampingBoundRow.holds Tryd.pinned (OpenSpec.ofChange dampingBoundSpec)

/-- ITS FALSE NEIGHBOUR: 'it returns false'. Refute it at one input. -/
def dampingBoundWrong : ChangeSpec := { name := "dampingBound", fn := fun _ => fun
  | [d1, d2] => { results := [.lit (.bool false)], args := [d1, d2] }
  | _ => none }
def DampingBoundWrongFalsely : Prop := dampingBoundRow.holds Tryd.pinned (OpenSpec.ofChange dampingBoundWrong)

/-- 'routinglaw42.DampingHalves': WHATEVER THE INPUT: true; the input reads as it did. -/
def dampingHalvesSpec : ChangeSpec := { name := "dampingHalves", fn := fun _ => fun
  | [d1, d2] => { results := [.lit (.bool true)], args := [d1, d2] }
  | _ => none }
def dampingHalvesRow : OpenClaim := { program := "ytgnlhfndjpdpkaadoor", sum := "53d7db981522f757449903f9ec3c7fdafd2858d46271c88d2d32f3976319923e", func := "routing/routinglaw42.DampingHalves", spec := "dampingHalves", unfollowed := true, recurses := true, named := ["routing/damping.penalties"], apart := false, laid := [("routing/damping.penalties", laid_routing_damping_penalties)] }
def DampingHalvesSaid : Prop := dampingHalvesRow.holds Tryd.pinned (OpenSpec.ofChange dampingHalvesSpec)

/-- ITS FALSE NEIGHBOUR: 'it returns false'. Refute it at one input. -/
def dampingHalvesWrong : ChangeSpec := { name := "dampingHalves", fn := fun _ => fun
  | [d1, d2] => { results := [.lit (.bool false)], args := [d1, d2] }
  | _ => none }
def DampingHalvesWrongFalsely : Prop := dampingHalvesRow.holds Tryd.pinned (OpenSpec.ofChange dampingHalvesWrong)

/- THE SECOND FORM. 'bulk': how many values and letters a reading holds, each counted each time it is reached (what is shared counts as often as it is met; a slice's spare places count too). A statement '..UptoSaid' is the law's where the arguments, and the package variables that the reading takes, are together of bulk at most 1048576: NARROWER than '..Said'. Prove '..Said' where nothing that the law and all that it calls make is longer than what came in: it says more and counts as full. Else prove '..UptoSaid'. A law counts once. -/
mutual
def uptoBulk {H : Type} : DataW H → Nat
  | .lit (.string bytes) => bytes.length + 1
  | .lit _ => 1
  | .nil => 1
  | .ptr d => uptoBulk d + 1
  | .slice elems spare => uptoBulkAll elems + uptoBulkAll spare + 1
  | .agg parts => uptoBulkAll parts + 1
  | .iface _ d => uptoBulk d + 1
  | .map entries => uptoBulkEntries entries + 1
  | .held _ => 1
def uptoBulkAll {H : Type} : List (DataW H) → Nat
  | [] => 0
  | d :: r => uptoBulk d + uptoBulkAll r
def uptoBulkEntries {H : Type} : List (Lit × DataW H) → Nat
  | [] => 0
  | x :: r => uptoBulkEntry x + uptoBulkEntries r
def uptoBulkEntry {H : Type} : Lit × DataW H → Nat
  | (.string bytes, d) => bytes.length + uptoBulk d + 1
  | (_, d) => uptoBulk d + 1
 end
def uptoSmall : (H : Type) → List (DataW H) → Bool := fun _ ds => decide (uptoBulkAll ds ≤ 1048576)
def OpenSpec.upto (s : _root_.Go.ChangeSpec) : _root_.Go.OpenSpec := { _root_.Go.OpenSpec.ofChange s with cond := some uptoSmall }

/-- 'routinglaw42.DampingCheck', WHERE WHAT IT READS IS OF BULK AT MOST 1048576: true; the input reads as it did. -/
def dampingCheckUptoRow : OpenClaim := { program := "ytgnlhfndjpdpkaadoor", sum := "53d7db981522f757449903f9ec3c7fdafd2858d46271c88d2d32f3976319923e", func := "routing/routinglaw42.DampingCheck", spec := "dampingCheck", unfollowed := true, recurses := true, named := ["routing/damping.penalties"], apart := false, laid := [("routing/damping.penalties", laid_routing_damping_penalties)], narrowed := true }
def DampingCheckUptoSaid : Prop := dampingCheckUptoRow.holds Tryd.pinned (OpenSpec.upto dampingCheckSpec)

/-- 'routinglaw42.DampingDecay', WHERE WHAT IT READS IS OF BULK AT MOST 1048576: true; the input reads as it did. -/
def dampingDecayUptoRow : OpenClaim := { program := "ytgnlhfndjpdpkaadoor", sum := "53d7db981522f757449903f9ec3c7fdafd2858d46271c88d2d32f3976319923e", func := "routing/routinglaw42.DampingDecay", spec := "dampingDecay", unfollowed := true, recurses := true, named := ["routing/damping.penalties"], apart := false, laid := [("routing/damping.penalties", laid_routing_damping_penalties)], narrowed := true }
def DampingDecayUptoSaid : Prop := dampingDecayUptoRow.holds Tryd.pinned (OpenSpec.upto dampingDecaySpec)

/-- 'routinglaw42.DampingFlaps', WHERE WHAT IT READS IS OF BULK AT MOST 1048576: true; the input reads as it did. -/
def dampingFlapsUptoRow : OpenClaim := { program := "ytgnlhfndjpdpkaadoor", sum := "53d7db981522f757449903f9ec3c7fdafd2858d46271c88d2d32f3976319923e", func := "routing/routinglaw42.DampingFlaps", spec := "dampingFlaps", unfollowed := true, recurses := true, named := ["routing/damping.penalties"], apart := false, laid := [("routing/damping.penalties", laid_routing_damping_penalties)], narrowed := true }
def DampingFlapsUptoSaid : Prop := dampingFlapsUptoRow.holds Tryd.pinned (OpenSpec.upto dampingFlapsSpec)

/-- 'routinglaw42.DampingReuse', WHERE WHAT IT READS IS OF BULK AT MOST 1048576: true; the input reads as it did. -/
def dampingReuseUptoRow : OpenClaim := { program := "ytgnlhfndjpdpkaadoor", sum := "53d7db981522f757449903f9ec3c7fdafd2858d46271c88d2d32f3976319923e", func := "routing/routinglaw42.DampingReuse", spec := "dampingReuse", unfollowed := true, recurses := true, named := ["routing/damping.penalties"], apart := false, laid := [("routing/damping.penalties", laid_routing_damping_penalties)], narrowed := true }
def DampingReuseUptoSaid : Prop := dampingReuseUptoRow.holds Tryd.pinned (OpenSpec.upto dampingReuseSpec)

/-- 'routinglaw42.DampingFalls', WHERE WHAT IT READS IS OF BULK AT MOST 1048576: true; the input reads as it did. -/
def dampingFallsUptoRow : OpenClaim := { program := "ytgnlhfndjpdpkaadoor", sum := "53d7db981522f757449903f9ec3c7fdafd2858d46271c88d2d32f3976319923e", func := "routing/routinglaw42.DampingFalls", spec := "dampingFalls", unfollowed := true, recurses := true, named := ["routing/damping.penalties"], apart := false, laid := [("routing/damping.penalties", laid_routing_damping_penalties)], narrowed := true }
def DampingFallsUptoSaid : Prop := dampingFallsUptoRow.holds Tryd.pinned (OpenSpec.upto dampingFallsSpec)

/-- 'routinglaw42.DampingBound', WHERE WHAT IT READS IS OF BULK AT MOST 1048576: true; the input reads as it did. -/
def dampingBoundUptoRow : OpenClaim := { program := "ytgnlhfndjpdpkaadoor", sum := "53d7db981522f757449903f9ec3c7fdafd2858d46271c88d2d32f3976319923e", func := "routing/routinglaw42.DampingBound", spec := "dampingBound", unfollowed := true, recurses := true, named := ["routing/damping.penalties"], apart := false, laid := [("routing/damping.penalties", laid_routing_damping_penalties)], narrowed := true }
def DampingBoundUptoSaid : Prop := dampingBoundUptoRow.holds Tryd.pinned (OpenSpec.upto dampingBoundSpec)

/-- 'routinglaw42.DampingHalves', WHERE WHAT IT READS IS OF BULK AT MOST 1048576: true; the input reads as it did. -/
def dampingHalvesUptoRow : OpenClaim := { program := "ytgnlhfndjpdpkaadoor", sum := "53d7db981522f757449903f9ec3c7fdafd2858d46271c88d2d32f3976319923e", func := "routing/routinglaw42.DampingHalves", spec := "dampingHalves", unfollowed := true, recurses := true, named := ["routing/damping.penalties"], apart := false, laid := [("routing/damping.penalties", laid_routing_damping_penalties)], narrowed := true }
def DampingHalvesUptoSaid : Prop := dampingHalvesUptoRow.holds Tryd.pinned (OpenSpec.upto dampingHalvesSpec)

end Rows
end Go.Proofs.YtgnlhfndjpdpkaaDoor
