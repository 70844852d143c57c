/-
  No cell of these rows narrows 'for every input' (looked for: loops, veiled, ifaces, maps, wideKeys, modest, calm, conditions, laid).
  DERIVED. THE GIVEN ROWS OF THIS SEAT. 6 by the template 'for every input the law returns true; each argument reads behind the call as it read before'; 0 by the template 'total and deterministic' (their statements: YtjpnaofoeeegeaaTotals.lean).
  GIVEN WITH THE SEED: the statements are not yours to turn. If you find one false, say at which input.
  Laid BY PROGRAM, IN A SANDBOX (cutbox-rows.mjs): the forced cells as the released guide's own fill.sh prints them over the translation 73bbb69aa118dbde… (all of the seat's roots in one cut). By AI agents, Wed Nov 11 2026. No macro, syntax, notation, axiom, sorry.
-/
import Derived.Test.YtjpnaofoeeegeaaChecked
import GoSem.Claim
import GoSem.ClaimJoined
import GoSem.ClaimMapViews
import Derived.JoinedTies
import Derived.KernelRfl
namespace Go.Proofs.Ytjpnaofoeeegeaa
/- THE CELL 'sum', in the pinned program and in every row, IS THE sha256 OF THE DUMP (.gsa) THAT YtjpnaofoeeegeaaProg.lean LOADS. Nothing in Lean hashes anything: it is a label: what it is worth is what the hold of that sum in a sandbox is worth. -/
noncomputable def Try.pinned : Pinned := { name := "ytjpnaofoeeegeaa", sum := "73bbb69aa118dbdeb16c8a9d467babb1fd4094623198ead9740d31081b4484a2", checked := Try.checked }
namespace Rows
def none {H : Type} : Left H := { results := [], args := [] }

/-- 'routingtop.TopTables': WHATEVER THE INPUT: true; the input reads as it did. -/
def topTablesSpec : ChangeSpec := { name := "topTables", fn := fun _ => fun
  | [d1, d2] => { results := [.lit (.bool true)], args := [d1, d2] }
  | _ => none }
def topTablesRow : OpenClaim := { program := "ytjpnaofoeeegeaa", sum := "73bbb69aa118dbdeb16c8a9d467babb1fd4094623198ead9740d31081b4484a2", func := "routing/routingtop.TopTables", spec := "topTables", unfollowed := true, recurses := true, apart := false }
def TopTablesSaid : Prop := topTablesRow.holds Try.pinned (OpenSpec.ofChange topTablesSpec)

/-- ITS FALSE NEIGHBOUR: 'it returns false'. Refute it at one input. -/
def topTablesWrong : ChangeSpec := { name := "topTables", fn := fun _ => fun
  | [d1, d2] => { results := [.lit (.bool false)], args := [d1, d2] }
  | _ => none }
def TopTablesWrongFalsely : Prop := topTablesRow.holds Try.pinned (OpenSpec.ofChange topTablesWrong)

/-- 'routinglaw08.StrideBuilds': WHATEVER THE INPUT: true; the input reads as it did. -/
def strideBuildsSpec : ChangeSpec := { name := "strideBuilds", fn := fun _ => fun
  | [d] => { results := [.lit (.bool true)], args := [d] }
  | _ => none }
def strideBuildsRow : OpenClaim := { program := "ytjpnaofoeeegeaa", sum := "73bbb69aa118dbdeb16c8a9d467babb1fd4094623198ead9740d31081b4484a2", func := "routing/routinglaw08.StrideBuilds", spec := "strideBuilds", unfollowed := true, recurses := true, apart := false }
def StrideBuildsSaid : Prop := strideBuildsRow.holds Try.pinned (OpenSpec.ofChange strideBuildsSpec)

/-- ITS FALSE NEIGHBOUR: 'it returns false'. Refute it at one input. -/
def strideBuildsWrong : ChangeSpec := { name := "strideBuilds", fn := fun _ => fun
  | [d] => { results := [.lit (.bool false)], args := [d] }
  | _ => none }
def StrideBuildsWrongFalsely : Prop := strideBuildsRow.holds Try.pinned (OpenSpec.ofChange strideBuildsWrong)

/-- 'routinglaw08.StrideLookups': WHATEVER THE INPUT: true; the input reads as it did. -/
def strideLookupsSpec : ChangeSpec := { name := "strideLookups", fn := fun _ => fun
  | [d1, d2] => { results := [.lit (.bool true)], args := [d1, d2] }
  | _ => none }
def strideLookupsRow : OpenClaim := { program := "ytjpnaofoeeegeaa", sum := "73bbb69aa118dbdeb16c8a9d467babb1fd4094623198ead9740d31081b4484a2", func := "routing/routinglaw08.StrideLookups", spec := "strideLookups", unfollowed := true, recurses := true, apart := false }
def StrideLookupsSaid : Prop := strideLookupsRow.holds Try.pinned (OpenSpec.ofChange strideLookupsSpec)

/-- ITS FALSE NEIGHBOUR: 'it returns false'. Refute it at one input. -/
def strideLookupsWrong : ChangeSpec := { name := "strideLookups", fn := fun _ => fun
  | [d1, d2] => { results := [.lit (.bool false)], args := [d1, d2] }
  | _ => none }
def StrideLookupsWrongFalsely : Prop := strideLookupsRow.holds Try.pinned (OpenSpec.ofChange strideLookupsWrong)

/-- 'routinglaw08.StrideCanonical': WHATEVER THE INPUT: true; the input reads as it did. -/
def strideCanonicalSpec : ChangeSpec := { name := "strideCanonical", fn := fun _ => fun
  | [d1, d2] => { results := [.lit (.bool true)], args := [d1, d2] }
  | _ => none }
def strideCanonicalRow : OpenClaim := { program := "ytjpnaofoeeegeaa", sum := "73bbb69aa118dbdeb16c8a9d467babb1fd4094623198ead9740d31081b4484a2", func := "routing/routinglaw08.StrideCanonical", spec := "strideCanonical", unfollowed := true, recurses := true, apart := false }
def StrideCanonicalSaid : Prop := strideCanonicalRow.holds Try.pinned (OpenSpec.ofChange strideCanonicalSpec)

/-- ITS FALSE NEIGHBOUR: 'it returns false'. Refute it at one input. -/
def strideCanonicalWrong : ChangeSpec := { name := "strideCanonical", fn := fun _ => fun
  | [d1, d2] => { results := [.lit (.bool false)], args := [d1, d2] }
  | _ => none }
def StrideCanonicalWrongFalsely : Prop := strideCanonicalRow.holds Try.pinned (OpenSpec.ofChange strideCanonicalWrong)

/-- 'routinglaw08.StrideBack': WHATEVER THE INPUT: true; the input reads as it did. -/
def strideBackSpec : ChangeSpec := { name := "strideBack", fn := fun _ => fun
  | [d] => { results := [.lit (.bool true)], args := [d] }
  | _ => none }
def strideBackRow : OpenClaim := { program := "ytjpnaofoeeegeaa", sum := "73bbb69aa118dbdeb16c8a9d467babb1fd4094623198ead9740d31081b4484a2", func := "routing/routinglaw08.StrideBack", spec := "strideBack", unfollowed := true, recurses := true, apart := false }
def StrideBackSaid : Prop := strideBackRow.holds Try.pinned (OpenSpec.ofChange strideBackSpec)

/-- ITS FALSE NEIGHBOUR: 'it returns false'. Refute it at one input. -/
def strideBackWrong : ChangeSpec := { name := "strideBack", fn := fun _ => fun
  | [d] => { results := [.lit (.bool false)], args := [d] }
  | _ => none }
def StrideBackWrongFalsely : Prop := strideBackRow.holds Try.pinned (OpenSpec.ofChange strideBackWrong)

/-- 'routinglaw08.StrideReads': WHATEVER THE INPUT: true; the input reads as it did. -/
def strideReadsSpec : ChangeSpec := { name := "strideReads", fn := fun _ => fun
  | [d1, d2] => { results := [.lit (.bool true)], args := [d1, d2] }
  | _ => none }
def strideReadsRow : OpenClaim := { program := "ytjpnaofoeeegeaa", sum := "73bbb69aa118dbdeb16c8a9d467babb1fd4094623198ead9740d31081b4484a2", func := "routing/routinglaw08.StrideReads", spec := "strideReads", unfollowed := true, recurses := true, apart := false }
def StrideReadsSaid : Prop := strideReadsRow.holds Try.pinned (OpenSpec.ofChange strideReadsSpec)

/-- ITS FALSE NEIGHBOUR: 'it returns false'. Refute it at one input. -/
def strideReadsWrong : ChangeSpec := { name := "strideReads", fn := fun _ => fun
  | [d1, d2] => { results := [.lit (.bool false)], args := [d1, d2] }
  | _ => none }
def StrideReadsWrongFalsely : Prop := strideReadsRow.holds Try.pinned (OpenSpec.ofChange strideReadsWrong)

/- THE SECOND FORM. 'bulk': how many values and letters a reading holds, each counted each time it is reached (what is shared counts as often as it is met; a slice's spare places count too). A statement '..UptoSaid' is the law's where the arguments, and the package variables that the reading takes, are together of bulk at most 1048576: NARROWER than '..Said'. Prove '..Said' where nothing that the law and all that it calls make is longer than what came in: it says more and counts as full. Else prove '..UptoSaid'. A law counts once. -/
mutual
def uptoBulk {H : Type} : DataW H → Nat
  | .lit (.string bytes) => bytes.length + 1
  | .lit _ => 1
  | .nil => 1
  | .ptr d => uptoBulk d + 1
  | .slice elems spare => uptoBulkAll elems + uptoBulkAll spare + 1
  | .agg parts => uptoBulkAll parts + 1
  | .iface _ d => uptoBulk d + 1
  | .map entries => uptoBulkEntries entries + 1
  | .held _ => 1
def uptoBulkAll {H : Type} : List (DataW H) → Nat
  | [] => 0
  | d :: r => uptoBulk d + uptoBulkAll r
def uptoBulkEntries {H : Type} : List (Lit × DataW H) → Nat
  | [] => 0
  | x :: r => uptoBulkEntry x + uptoBulkEntries r
def uptoBulkEntry {H : Type} : Lit × DataW H → Nat
  | (.string bytes, d) => bytes.length + uptoBulk d + 1
  | (_, d) => uptoBulk d + 1
 end
def uptoSmall : (H : Type) → List (DataW H) → Bool := fun _ ds => decide (uptoBulkAll ds ≤ 1048576)
def OpenSpec.upto (s : _root_.Go.ChangeSpec) : _root_.Go.OpenSpec := { _root_.Go.OpenSpec.ofChange s with cond := some uptoSmall }

/-- 'routingtop.TopTables', WHERE WHAT IT READS IS OF BULK AT MOST 1048576: true; the input reads as it did. -/
def topTablesUptoRow : OpenClaim := { program := "ytjpnaofoeeegeaa", sum := "73bbb69aa118dbdeb16c8a9d467babb1fd4094623198ead9740d31081b4484a2", func := "routing/routingtop.TopTables", spec := "topTables", unfollowed := true, recurses := true, apart := false, narrowed := true }
def TopTablesUptoSaid : Prop := topTablesUptoRow.holds Try.pinned (OpenSpec.upto topTablesSpec)

/-- 'routinglaw08.StrideBuilds', WHERE WHAT IT READS IS OF BULK AT MOST 1048576: true; the input reads as it did. -/
def strideBuildsUptoRow : OpenClaim := { program := "ytjpnaofoeeegeaa", sum := "73bbb69aa118dbdeb16c8a9d467babb1fd4094623198ead9740d31081b4484a2", func := "routing/routinglaw08.StrideBuilds", spec := "strideBuilds", unfollowed := true, recurses := true, apart := false, narrowed := true }
def StrideBuildsUptoSaid : Prop := strideBuildsUptoRow.holds Try.pinned (OpenSpec.upto strideBuildsSpec)

/-- 'routinglaw08.StrideLookups', WHERE WHAT IT READS IS OF BULK AT MOST 1048576: true; the input reads as it did. -/
def strideLookupsUptoRow : OpenClaim := { program := "ytjpnaofoeeegeaa", sum := "73bbb69aa118dbdeb16c8a9d467babb1fd4094623198ead9740d31081b4484a2", func := "routing/routinglaw08.StrideLookups", spec := "strideLookups", unfollowed := true, recurses := true, apart := false, narrowed := true }
def StrideLookupsUptoSaid : Prop := strideLookupsUptoRow.holds Try.pinned (OpenSpec.upto strideLookupsSpec)

/-- 'routinglaw08.StrideCanonical', WHERE WHAT IT READS IS OF BULK AT MOST 1048576: true; the input reads as it did. -/
def strideCanonicalUptoRow : OpenClaim := { program := "ytjpnaofoeeegeaa", sum := "73bbb69aa118dbdeb16c8a9d467babb1fd4094623198ead9740d31081b4484a2", func := "routing/routinglaw08.StrideCanonical", spec := "strideCanonical", unfollowed := true, recurses := true, apart := false, narrowed := true }
def StrideCanonicalUptoSaid : Prop := strideCanonicalUptoRow.holds Try.pinned (OpenSpec.upto strideCanonicalSpec)

/-- 'routinglaw08.StrideBack', WHERE WHAT IT READS IS OF BULK AT MOST 1048576: true; the input reads as it did. -/
def strideBackUptoRow : OpenClaim := { program := "ytjpnaofoeeegeaa", sum := "73bbb69aa118dbdeb16c8a9d467babb1fd4094623198ead9740d31081b4484a2", func := "routing/routinglaw08.StrideBack", spec := "strideBack", unfollowed := true, recurses := true, apart := false, narrowed := true }
def StrideBackUptoSaid : Prop := strideBackUptoRow.holds Try.pinned (OpenSpec.upto strideBackSpec)

/-- 'routinglaw08.StrideReads', WHERE WHAT IT READS IS OF BULK AT MOST 1048576: true; the input reads as it did. -/
def strideReadsUptoRow : OpenClaim := { program := "ytjpnaofoeeegeaa", sum := "73bbb69aa118dbdeb16c8a9d467babb1fd4094623198ead9740d31081b4484a2", func := "routing/routinglaw08.StrideReads", spec := "strideReads", unfollowed := true, recurses := true, apart := false, narrowed := true }
def StrideReadsUptoSaid : Prop := strideReadsUptoRow.holds Try.pinned (OpenSpec.upto strideReadsSpec)

end Rows
end Go.Proofs.Ytjpnaofoeeegeaa
