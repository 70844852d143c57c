/-
  No cell of these rows narrows 'for every input' (looked for: loops, veiled, ifaces, maps, wideKeys, modest, calm, conditions, laid).
  DERIVED. THE GIVEN ROWS OF THIS SEAT. 6 by the template 'for every input the law returns true; each argument reads behind the call as it read before'; 0 by the template 'total and deterministic' (their statements: YtkdjbddjblahkaaTotals.lean).
  GIVEN WITH THE SEED: the statements are not yours to turn. If you find one false, say at which input.
  Laid BY PROGRAM, IN A SANDBOX (cutbox-rows.mjs): the forced cells as the released guide's own fill.sh prints them over the translation f9635b352d0b46c4… (all of the seat's roots in one cut). By AI agents, Wed Nov 11 2026. No macro, syntax, notation, axiom, sorry.
-/
import Derived.Test.YtkdjbddjblahkaaChecked
import GoSem.Claim
import GoSem.ClaimJoined
import GoSem.ClaimMapViews
import Derived.JoinedTies
import Derived.KernelRfl
namespace Go.Proofs.Ytkdjbddjblahkaa
/- THE CELL 'sum', in the pinned program and in every row, IS THE sha256 OF THE DUMP (.gsa) THAT YtkdjbddjblahkaaProg.lean LOADS. Nothing in Lean hashes anything: it is a label: what it is worth is what the hold of that sum in a sandbox is worth. -/
noncomputable def Try.pinned : Pinned := { name := "ytkdjbddjblahkaa", sum := "f9635b352d0b46c4ed2aa96b8450a6492dbc41d1132f2a6578b160903085b9ea", checked := Try.checked }
namespace Rows
def none {H : Type} : Left H := { results := [], args := [] }

/-- 'routinglaw49.ResolveFinds': WHATEVER THE INPUT: true; the input reads as it did. -/
def resolveFindsSpec : ChangeSpec := { name := "resolveFinds", fn := fun _ => fun
  | [d1, d2] => { results := [.lit (.bool true)], args := [d1, d2] }
  | _ => none }
def resolveFindsRow : OpenClaim := { program := "ytkdjbddjblahkaa", sum := "f9635b352d0b46c4ed2aa96b8450a6492dbc41d1132f2a6578b160903085b9ea", func := "routing/routinglaw49.ResolveFinds", spec := "resolveFinds", unfollowed := true, recurses := true, plainKeys := false, apart := false }
def ResolveFindsSaid : Prop := resolveFindsRow.holds Try.pinned (OpenSpec.ofChange resolveFindsSpec)

/-- ITS FALSE NEIGHBOUR: 'it returns false'. Refute it at one input. -/
def resolveFindsWrong : ChangeSpec := { name := "resolveFinds", fn := fun _ => fun
  | [d1, d2] => { results := [.lit (.bool false)], args := [d1, d2] }
  | _ => none }
def ResolveFindsWrongFalsely : Prop := resolveFindsRow.holds Try.pinned (OpenSpec.ofChange resolveFindsWrong)

/-- 'routinglaw49.ResolveHops': WHATEVER THE INPUT: true; the input reads as it did. -/
def resolveHopsSpec : ChangeSpec := { name := "resolveHops", fn := fun _ => fun
  | [d1, d2] => { results := [.lit (.bool true)], args := [d1, d2] }
  | _ => none }
def resolveHopsRow : OpenClaim := { program := "ytkdjbddjblahkaa", sum := "f9635b352d0b46c4ed2aa96b8450a6492dbc41d1132f2a6578b160903085b9ea", func := "routing/routinglaw49.ResolveHops", spec := "resolveHops", unfollowed := true, recurses := true, plainKeys := false, apart := false }
def ResolveHopsSaid : Prop := resolveHopsRow.holds Try.pinned (OpenSpec.ofChange resolveHopsSpec)

/-- ITS FALSE NEIGHBOUR: 'it returns false'. Refute it at one input. -/
def resolveHopsWrong : ChangeSpec := { name := "resolveHops", fn := fun _ => fun
  | [d1, d2] => { results := [.lit (.bool false)], args := [d1, d2] }
  | _ => none }
def ResolveHopsWrongFalsely : Prop := resolveHopsRow.holds Try.pinned (OpenSpec.ofChange resolveHopsWrong)

/-- 'routinglaw49.ResolveAll': WHATEVER THE INPUT: true; the input reads as it did. -/
def resolveAllSpec : ChangeSpec := { name := "resolveAll", fn := fun _ => fun
  | [d] => { results := [.lit (.bool true)], args := [d] }
  | _ => none }
def resolveAllRow : OpenClaim := { program := "ytkdjbddjblahkaa", sum := "f9635b352d0b46c4ed2aa96b8450a6492dbc41d1132f2a6578b160903085b9ea", func := "routing/routinglaw49.ResolveAll", spec := "resolveAll", unfollowed := true, recurses := true, plainKeys := false, apart := false }
def ResolveAllSaid : Prop := resolveAllRow.holds Try.pinned (OpenSpec.ofChange resolveAllSpec)

/-- ITS FALSE NEIGHBOUR: 'it returns false'. Refute it at one input. -/
def resolveAllWrong : ChangeSpec := { name := "resolveAll", fn := fun _ => fun
  | [d] => { results := [.lit (.bool false)], args := [d] }
  | _ => none }
def ResolveAllWrongFalsely : Prop := resolveAllRow.holds Try.pinned (OpenSpec.ofChange resolveAllWrong)

/-- 'routinglaw49.ResolveEnds': WHATEVER THE INPUT: true; the input reads as it did. -/
def resolveEndsSpec : ChangeSpec := { name := "resolveEnds", fn := fun _ => fun
  | [d1, d2] => { results := [.lit (.bool true)], args := [d1, d2] }
  | _ => none }
def resolveEndsRow : OpenClaim := { program := "ytkdjbddjblahkaa", sum := "f9635b352d0b46c4ed2aa96b8450a6492dbc41d1132f2a6578b160903085b9ea", func := "routing/routinglaw49.ResolveEnds", spec := "resolveEnds", unfollowed := true, recurses := true, plainKeys := false, apart := false }
def ResolveEndsSaid : Prop := resolveEndsRow.holds Try.pinned (OpenSpec.ofChange resolveEndsSpec)

/-- ITS FALSE NEIGHBOUR: 'it returns false'. Refute it at one input. -/
def resolveEndsWrong : ChangeSpec := { name := "resolveEnds", fn := fun _ => fun
  | [d1, d2] => { results := [.lit (.bool false)], args := [d1, d2] }
  | _ => none }
def ResolveEndsWrongFalsely : Prop := resolveEndsRow.holds Try.pinned (OpenSpec.ofChange resolveEndsWrong)

/-- 'routinglaw49.ResolveKeeps': WHATEVER THE INPUT: true; the input reads as it did. -/
def resolveKeepsSpec : ChangeSpec := { name := "resolveKeeps", fn := fun _ => fun
  | [d1, d2] => { results := [.lit (.bool true)], args := [d1, d2] }
  | _ => none }
def resolveKeepsRow : OpenClaim := { program := "ytkdjbddjblahkaa", sum := "f9635b352d0b46c4ed2aa96b8450a6492dbc41d1132f2a6578b160903085b9ea", func := "routing/routinglaw49.ResolveKeeps", spec := "resolveKeeps", unfollowed := true, recurses := true, plainKeys := false, apart := false }
def ResolveKeepsSaid : Prop := resolveKeepsRow.holds Try.pinned (OpenSpec.ofChange resolveKeepsSpec)

/-- ITS FALSE NEIGHBOUR: 'it returns false'. Refute it at one input. -/
def resolveKeepsWrong : ChangeSpec := { name := "resolveKeeps", fn := fun _ => fun
  | [d1, d2] => { results := [.lit (.bool false)], args := [d1, d2] }
  | _ => none }
def ResolveKeepsWrongFalsely : Prop := resolveKeepsRow.holds Try.pinned (OpenSpec.ofChange resolveKeepsWrong)

/-- 'routinglaw49.ResolveChain': WHATEVER THE INPUT: true; the input reads as it did. -/
def resolveChainSpec : ChangeSpec := { name := "resolveChain", fn := fun _ => fun
  | [d1, d2] => { results := [.lit (.bool true)], args := [d1, d2] }
  | _ => none }
def resolveChainRow : OpenClaim := { program := "ytkdjbddjblahkaa", sum := "f9635b352d0b46c4ed2aa96b8450a6492dbc41d1132f2a6578b160903085b9ea", func := "routing/routinglaw49.ResolveChain", spec := "resolveChain", unfollowed := true, recurses := true, plainKeys := false, apart := false }
def ResolveChainSaid : Prop := resolveChainRow.holds Try.pinned (OpenSpec.ofChange resolveChainSpec)

/-- ITS FALSE NEIGHBOUR: 'it returns false'. Refute it at one input. -/
def resolveChainWrong : ChangeSpec := { name := "resolveChain", fn := fun _ => fun
  | [d1, d2] => { results := [.lit (.bool false)], args := [d1, d2] }
  | _ => none }
def ResolveChainWrongFalsely : Prop := resolveChainRow.holds Try.pinned (OpenSpec.ofChange resolveChainWrong)

/- THE SECOND FORM. 'bulk': how many values and letters a reading holds, each counted each time it is reached (what is shared counts as often as it is met; a slice's spare places count too). A statement '..UptoSaid' is the law's where the arguments, and the package variables that the reading takes, are together of bulk at most 1048576: NARROWER than '..Said'. Prove '..Said' where nothing that the law and all that it calls make is longer than what came in: it says more and counts as full. Else prove '..UptoSaid'. A law counts once. -/
mutual
def uptoBulk {H : Type} : DataW H → Nat
  | .lit (.string bytes) => bytes.length + 1
  | .lit _ => 1
  | .nil => 1
  | .ptr d => uptoBulk d + 1
  | .slice elems spare => uptoBulkAll elems + uptoBulkAll spare + 1
  | .agg parts => uptoBulkAll parts + 1
  | .iface _ d => uptoBulk d + 1
  | .map entries => uptoBulkEntries entries + 1
  | .held _ => 1
def uptoBulkAll {H : Type} : List (DataW H) → Nat
  | [] => 0
  | d :: r => uptoBulk d + uptoBulkAll r
def uptoBulkEntries {H : Type} : List (Lit × DataW H) → Nat
  | [] => 0
  | x :: r => uptoBulkEntry x + uptoBulkEntries r
def uptoBulkEntry {H : Type} : Lit × DataW H → Nat
  | (.string bytes, d) => bytes.length + uptoBulk d + 1
  | (_, d) => uptoBulk d + 1
 end
def uptoSmall : (H : Type) → List (DataW H) → Bool := fun _ ds => decide (uptoBulkAll ds ≤ 1048576)
def OpenSpec.upto (s : _root_.Go.ChangeSpec) : _root_.Go.OpenSpec := { _root_.Go.OpenSpec.ofChange s with cond := some uptoSmall }

/-- 'routinglaw49.ResolveFinds', WHERE WHAT IT READS IS OF BULK AT MOST 1048576: true; the input reads as it did. -/
def resolveFindsUptoRow : OpenClaim := { program := "ytkdjbddjblahkaa", sum := "f9635b352d0b46c4ed2aa96b8450a6492dbc41d1132f2a6578b160903085b9ea", func := "routing/routinglaw49.ResolveFinds", spec := "resolveFinds", unfollowed := true, recurses := true, plainKeys := false, apart := false, narrowed := true }
def ResolveFindsUptoSaid : Prop := resolveFindsUptoRow.holds Try.pinned (OpenSpec.upto resolveFindsSpec)

/-- 'routinglaw49.ResolveHops', WHERE WHAT IT READS IS OF BULK AT MOST 1048576: true; the input reads as it did. -/
def resolveHopsUptoRow : OpenClaim := { program := "ytkdjbddjblahkaa", sum := "f9635b352d0b46c4ed2aa96b8450a6492dbc41d1132f2a6578b160903085b9ea", func := "routing/routinglaw49.ResolveHops", spec := "resolveHops", unfollowed := true, recurses := true, plainKeys := false, apart := false, narrowed := true }
def ResolveHopsUptoSaid : Prop := resolveHopsUptoRow.holds Try.pinned (OpenSpec.upto resolveHopsSpec)

/-- 'routinglaw49.ResolveAll', WHERE WHAT IT READS IS OF BULK AT MOST 1048576: true; the input reads as it did. -/
def resolveAllUptoRow : OpenClaim := { program := "ytkdjbddjblahkaa", sum := "f9635b352d0b46c4ed2aa96b8450a6492dbc41d1132f2a6578b160903085b9ea", func := "routing/routinglaw49.ResolveAll", spec := "resolveAll", unfollowed := true, recurses := true, plainKeys := false, apart := false, narrowed := true }
def ResolveAllUptoSaid : Prop := resolveAllUptoRow.holds Try.pinned (OpenSpec.upto resolveAllSpec)

/-- 'routinglaw49.ResolveEnds', WHERE WHAT IT READS IS OF BULK AT MOST 1048576: true; the input reads as it did. -/
def resolveEndsUptoRow : OpenClaim := { program := "ytkdjbddjblahkaa", sum := "f9635b352d0b46c4ed2aa96b8450a6492dbc41d1132f2a6578b160903085b9ea", func := "routing/routinglaw49.ResolveEnds", spec := "resolveEnds", unfollowed := true, recurses := true, plainKeys := false, apart := false, narrowed := true }
def ResolveEndsUptoSaid : Prop := resolveEndsUptoRow.holds Try.pinned (OpenSpec.upto resolveEndsSpec)

/-- 'routinglaw49.ResolveKeeps', WHERE WHAT IT READS IS OF BULK AT MOST 1048576: true; the input reads as it did. -/
def resolveKeepsUptoRow : OpenClaim := { program := "ytkdjbddjblahkaa", sum := "f9635b352d0b46c4ed2aa96b8450a6492dbc41d1132f2a6578b160903085b9ea", func := "routing/routinglaw49.ResolveKeeps", spec := "resolveKeeps", unfollowed := true, recurses := true, plainKeys := false, apart := false, narrowed := true }
def ResolveKeepsUptoSaid : Prop := resolveKeepsUptoRow.holds Try.pinned (OpenSpec.upto resolveKeepsSpec)

/-- 'routinglaw49.ResolveChain', WHERE WHAT IT READS IS OF BULK AT MOST 1048576: true; the input reads as it did. -/
def resolveChainUptoRow : OpenClaim := { program := "ytkdjbddjblahkaa", sum := "f9635b352d0b46c4ed2aa96b8450a6492dbc41d1132f2a6578b160903085b9ea", func := "routing/routinglaw49.ResolveChain", spec := "resolveChain", unfollowed := true, recurses := true, plainKeys := false, apart := false, narrowed := true }
def ResolveChainUptoSaid : Prop := resolveChainUptoRow.holds Try.pinned (OpenSpec.upto resolveChainSpec)

end Rows
end Go.Proofs.Ytkdjbddjblahkaa
