/-
  No cell of these rows narrows 'for every input' (looked for: loops, veiled, ifaces, maps, wideKeys, modest, calm, conditions, laid).
  DERIVED. THE GIVEN ROWS OF THIS SEAT. 7 by the template 'for every input the law returns true; each argument reads behind the call as it read before'; 0 by the template 'total and deterministic' (their statements: YtphifkbeanneaaaTotals.lean).
  GIVEN WITH THE SEED: the statements are not yours to turn. If you find one false, say at which input.
  Laid BY PROGRAM, IN A SANDBOX (cutbox-rows.mjs): the forced cells as the released guide's own fill.sh prints them over the translation f8e7a963ca76edee… (all of the seat's roots in one cut). By AI agents, Wed Nov 11 2026. No macro, syntax, notation, axiom, sorry.
-/
import Derived.Test.YtphifkbeanneaaaChecked
import GoSem.Claim
import GoSem.ClaimJoined
import GoSem.ClaimMapViews
import Derived.JoinedTies
import Derived.KernelRfl
namespace Go.Proofs.Ytphifkbeanneaaa
/- THE CELL 'sum', in the pinned program and in every row, IS THE sha256 OF THE DUMP (.gsa) THAT YtphifkbeanneaaaProg.lean LOADS. Nothing in Lean hashes anything: it is a label: what it is worth is what the hold of that sum in a sandbox is worth. -/
noncomputable def Try.pinned : Pinned := { name := "ytphifkbeanneaaa", sum := "f8e7a963ca76edee9aee77051bdc29ee0c48ef30630b202af61863b4bef36fa7", checked := Try.checked }
namespace Rows
def none {H : Type} : Left H := { results := [], args := [] }

/-- 'routingtop.TopRanges': WHATEVER THE INPUT: true; the input reads as it did. -/
def topRangesSpec : ChangeSpec := { name := "topRanges", fn := fun _ => fun
  | [d1, d2, d3] => { results := [.lit (.bool true)], args := [d1, d2, d3] }
  | _ => none }
def topRangesRow : OpenClaim := { program := "ytphifkbeanneaaa", sum := "f8e7a963ca76edee9aee77051bdc29ee0c48ef30630b202af61863b4bef36fa7", func := "routing/routingtop.TopRanges", spec := "topRanges", unfollowed := true, recurses := true, apart := false }
def TopRangesSaid : Prop := topRangesRow.holds Try.pinned (OpenSpec.ofChange topRangesSpec)

/-- ITS FALSE NEIGHBOUR: 'it returns false'. Refute it at one input. -/
def topRangesWrong : ChangeSpec := { name := "topRanges", fn := fun _ => fun
  | [d1, d2, d3] => { results := [.lit (.bool false)], args := [d1, d2, d3] }
  | _ => none }
def TopRangesWrongFalsely : Prop := topRangesRow.holds Try.pinned (OpenSpec.ofChange topRangesWrong)

/-- 'routinglaw06.TrieLongest': WHATEVER THE INPUT: true; the input reads as it did. -/
def trieLongestSpec : ChangeSpec := { name := "trieLongest", fn := fun _ => fun
  | [d1, d2] => { results := [.lit (.bool true)], args := [d1, d2] }
  | _ => none }
def trieLongestRow : OpenClaim := { program := "ytphifkbeanneaaa", sum := "f8e7a963ca76edee9aee77051bdc29ee0c48ef30630b202af61863b4bef36fa7", func := "routing/routinglaw06.TrieLongest", spec := "trieLongest", unfollowed := true, recurses := true, apart := false }
def TrieLongestSaid : Prop := trieLongestRow.holds Try.pinned (OpenSpec.ofChange trieLongestSpec)

/-- ITS FALSE NEIGHBOUR: 'it returns false'. Refute it at one input. -/
def trieLongestWrong : ChangeSpec := { name := "trieLongest", fn := fun _ => fun
  | [d1, d2] => { results := [.lit (.bool false)], args := [d1, d2] }
  | _ => none }
def TrieLongestWrongFalsely : Prop := trieLongestRow.holds Try.pinned (OpenSpec.ofChange trieLongestWrong)

/-- 'routinglaw06.TrieOf': WHATEVER THE INPUT: true; the input reads as it did. -/
def trieOfSpec : ChangeSpec := { name := "trieOf", fn := fun _ => fun
  | [d] => { results := [.lit (.bool true)], args := [d] }
  | _ => none }
def trieOfRow : OpenClaim := { program := "ytphifkbeanneaaa", sum := "f8e7a963ca76edee9aee77051bdc29ee0c48ef30630b202af61863b4bef36fa7", func := "routing/routinglaw06.TrieOf", spec := "trieOf", unfollowed := true, recurses := true, apart := false }
def TrieOfSaid : Prop := trieOfRow.holds Try.pinned (OpenSpec.ofChange trieOfSpec)

/-- ITS FALSE NEIGHBOUR: 'it returns false'. Refute it at one input. -/
def trieOfWrong : ChangeSpec := { name := "trieOf", fn := fun _ => fun
  | [d] => { results := [.lit (.bool false)], args := [d] }
  | _ => none }
def TrieOfWrongFalsely : Prop := trieOfRow.holds Try.pinned (OpenSpec.ofChange trieOfWrong)

/-- 'routinglaw06.TrieOrder': WHATEVER THE INPUT: true; the input reads as it did. -/
def trieOrderSpec : ChangeSpec := { name := "trieOrder", fn := fun _ => fun
  | [d] => { results := [.lit (.bool true)], args := [d] }
  | _ => none }
def trieOrderRow : OpenClaim := { program := "ytphifkbeanneaaa", sum := "f8e7a963ca76edee9aee77051bdc29ee0c48ef30630b202af61863b4bef36fa7", func := "routing/routinglaw06.TrieOrder", spec := "trieOrder", unfollowed := true, recurses := true, apart := false }
def TrieOrderSaid : Prop := trieOrderRow.holds Try.pinned (OpenSpec.ofChange trieOrderSpec)

/-- ITS FALSE NEIGHBOUR: 'it returns false'. Refute it at one input. -/
def trieOrderWrong : ChangeSpec := { name := "trieOrder", fn := fun _ => fun
  | [d] => { results := [.lit (.bool false)], args := [d] }
  | _ => none }
def TrieOrderWrongFalsely : Prop := trieOrderRow.holds Try.pinned (OpenSpec.ofChange trieOrderWrong)

/-- 'routinglaw06.TrieCalls': WHATEVER THE INPUT: true; the input reads as it did. -/
def trieCallsSpec : ChangeSpec := { name := "trieCalls", fn := fun _ => fun
  | [d] => { results := [.lit (.bool true)], args := [d] }
  | _ => none }
def trieCallsRow : OpenClaim := { program := "ytphifkbeanneaaa", sum := "f8e7a963ca76edee9aee77051bdc29ee0c48ef30630b202af61863b4bef36fa7", func := "routing/routinglaw06.TrieCalls", spec := "trieCalls", unfollowed := true, recurses := true, apart := false }
def TrieCallsSaid : Prop := trieCallsRow.holds Try.pinned (OpenSpec.ofChange trieCallsSpec)

/-- ITS FALSE NEIGHBOUR: 'it returns false'. Refute it at one input. -/
def trieCallsWrong : ChangeSpec := { name := "trieCalls", fn := fun _ => fun
  | [d] => { results := [.lit (.bool false)], args := [d] }
  | _ => none }
def TrieCallsWrongFalsely : Prop := trieCallsRow.holds Try.pinned (OpenSpec.ofChange trieCallsWrong)

/-- 'routinglaw06.TrieDrops': WHATEVER THE INPUT: true; the input reads as it did. -/
def trieDropsSpec : ChangeSpec := { name := "trieDrops", fn := fun _ => fun
  | [d1, d2, d3] => { results := [.lit (.bool true)], args := [d1, d2, d3] }
  | _ => none }
def trieDropsRow : OpenClaim := { program := "ytphifkbeanneaaa", sum := "f8e7a963ca76edee9aee77051bdc29ee0c48ef30630b202af61863b4bef36fa7", func := "routing/routinglaw06.TrieDrops", spec := "trieDrops", unfollowed := true, recurses := true, apart := false }
def TrieDropsSaid : Prop := trieDropsRow.holds Try.pinned (OpenSpec.ofChange trieDropsSpec)

/-- ITS FALSE NEIGHBOUR: 'it returns false'. Refute it at one input. -/
def trieDropsWrong : ChangeSpec := { name := "trieDrops", fn := fun _ => fun
  | [d1, d2, d3] => { results := [.lit (.bool false)], args := [d1, d2, d3] }
  | _ => none }
def TrieDropsWrongFalsely : Prop := trieDropsRow.holds Try.pinned (OpenSpec.ofChange trieDropsWrong)

/-- 'routinglaw06.TrieNil': WHATEVER THE INPUT: true; the input reads as it did. -/
def trieNilSpec : ChangeSpec := { name := "trieNil", fn := fun _ => fun
  | [d1, d2] => { results := [.lit (.bool true)], args := [d1, d2] }
  | _ => none }
def trieNilRow : OpenClaim := { program := "ytphifkbeanneaaa", sum := "f8e7a963ca76edee9aee77051bdc29ee0c48ef30630b202af61863b4bef36fa7", func := "routing/routinglaw06.TrieNil", spec := "trieNil", unfollowed := true, recurses := true, apart := false }
def TrieNilSaid : Prop := trieNilRow.holds Try.pinned (OpenSpec.ofChange trieNilSpec)

/-- ITS FALSE NEIGHBOUR: 'it returns false'. Refute it at one input. -/
def trieNilWrong : ChangeSpec := { name := "trieNil", fn := fun _ => fun
  | [d1, d2] => { results := [.lit (.bool false)], args := [d1, d2] }
  | _ => none }
def TrieNilWrongFalsely : Prop := trieNilRow.holds Try.pinned (OpenSpec.ofChange trieNilWrong)

/- THE SECOND FORM. 'bulk': how many values and letters a reading holds, each counted each time it is reached (what is shared counts as often as it is met; a slice's spare places count too). A statement '..UptoSaid' is the law's where the arguments, and the package variables that the reading takes, are together of bulk at most 1048576: NARROWER than '..Said'. Prove '..Said' where nothing that the law and all that it calls make is longer than what came in: it says more and counts as full. Else prove '..UptoSaid'. A law counts once. -/
mutual
def uptoBulk {H : Type} : DataW H → Nat
  | .lit (.string bytes) => bytes.length + 1
  | .lit _ => 1
  | .nil => 1
  | .ptr d => uptoBulk d + 1
  | .slice elems spare => uptoBulkAll elems + uptoBulkAll spare + 1
  | .agg parts => uptoBulkAll parts + 1
  | .iface _ d => uptoBulk d + 1
  | .map entries => uptoBulkEntries entries + 1
  | .held _ => 1
def uptoBulkAll {H : Type} : List (DataW H) → Nat
  | [] => 0
  | d :: r => uptoBulk d + uptoBulkAll r
def uptoBulkEntries {H : Type} : List (Lit × DataW H) → Nat
  | [] => 0
  | x :: r => uptoBulkEntry x + uptoBulkEntries r
def uptoBulkEntry {H : Type} : Lit × DataW H → Nat
  | (.string bytes, d) => bytes.length + uptoBulk d + 1
  | (_, d) => uptoBulk d + 1
 end
def uptoSmall : (H : Type) → List (DataW H) → Bool := fun _ ds => decide (uptoBulkAll ds ≤ 1048576)
def OpenSpec.upto (s : _root_.Go.ChangeSpec) : _root_.Go.OpenSpec := { _root_.Go.OpenSpec.ofChange s with cond := some uptoSmall }

/-- 'routingtop.TopRanges', WHERE WHAT IT READS IS OF BULK AT MOST 1048576: true; the input reads as it did. -/
def topRangesUptoRow : OpenClaim := { program := "ytphifkbeanneaaa", sum := "f8e7a963ca76edee9aee77051bdc29ee0c48ef30630b202af61863b4bef36fa7", func := "routing/routingtop.TopRanges", spec := "topRanges", unfollowed := true, recurses := true, apart := false, narrowed := true }
def TopRangesUptoSaid : Prop := topRangesUptoRow.holds Try.pinned (OpenSpec.upto topRangesSpec)

/-- 'routinglaw06.TrieLongest', WHERE WHAT IT READS IS OF BULK AT MOST 1048576: true; the input reads as it did. -/
def trieLongestUptoRow : OpenClaim := { program := "ytphifkbeanneaaa", sum := "f8e7a963ca76edee9aee77051bdc29ee0c48ef30630b202af61863b4bef36fa7", func := "routing/routinglaw06.TrieLongest", spec := "trieLongest", unfollowed := true, recurses := true, apart := false, narrowed := true }
def TrieLongestUptoSaid : Prop := trieLongestUptoRow.holds Try.pinned (OpenSpec.upto trieLongestSpec)

/-- 'routinglaw06.TrieOf', WHERE WHAT IT READS IS OF BULK AT MOST 1048576: true; the input reads as it did. -/
def trieOfUptoRow : OpenClaim := { program := "ytphifkbeanneaaa", sum := "f8e7a963ca76edee9aee77051bdc29ee0c48ef30630b202af61863b4bef36fa7", func := "routing/routinglaw06.TrieOf", spec := "trieOf", unfollowed := true, recurses := true, apart := false, narrowed := true }
def TrieOfUptoSaid : Prop := trieOfUptoRow.holds Try.pinned (OpenSpec.upto trieOfSpec)

/-- 'routinglaw06.TrieOrder', WHERE WHAT IT READS IS OF BULK AT MOST 1048576: true; the input reads as it did. -/
def trieOrderUptoRow : OpenClaim := { program := "ytphifkbeanneaaa", sum := "f8e7a963ca76edee9aee77051bdc29ee0c48ef30630b202af61863b4bef36fa7", func := "routing/routinglaw06.TrieOrder", spec := "trieOrder", unfollowed := true, recurses := true, apart := false, narrowed := true }
def TrieOrderUptoSaid : Prop := trieOrderUptoRow.holds Try.pinned (OpenSpec.upto trieOrderSpec)

/-- 'routinglaw06.TrieCalls', WHERE WHAT IT READS IS OF BULK AT MOST 1048576: true; the input reads as it did. -/
def trieCallsUptoRow : OpenClaim := { program := "ytphifkbeanneaaa", sum := "f8e7a963ca76edee9aee77051bdc29ee0c48ef30630b202af61863b4bef36fa7", func := "routing/routinglaw06.TrieCalls", spec := "trieCalls", unfollowed := true, recurses := true, apart := false, narrowed := true }
def TrieCallsUptoSaid : Prop := trieCallsUptoRow.holds Try.pinned (OpenSpec.upto trieCallsSpec)

/-- 'routinglaw06.TrieDrops', WHERE WHAT IT READS IS OF BULK AT MOST 1048576: true; the input reads as it did. -/
def trieDropsUptoRow : OpenClaim := { program := "ytphifkbeanneaaa", sum := "f8e7a963ca76edee9aee77051bdc29ee0c48ef30630b202af61863b4bef36fa7", func := "routing/routinglaw06.TrieDrops", spec := "trieDrops", unfollowed := true, recurses := true, apart := false, narrowed := true }
def TrieDropsUptoSaid : Prop := trieDropsUptoRow.holds Try.pinned (OpenSpec.upto trieDropsSpec)

/-- 'routinglaw06.TrieNil', WHERE WHAT IT READS IS OF BULK AT MOST 1048576: true; the input reads as it did. -/
def trieNilUptoRow : OpenClaim := { program := "ytphifkbeanneaaa", sum := "f8e7a963ca76edee9aee77051bdc29ee0c48ef30630b202af61863b4bef36fa7", func := "routing/routinglaw06.TrieNil", spec := "trieNil", unfollowed := true, recurses := true, apart := false, narrowed := true }
def TrieNilUptoSaid : Prop := trieNilUptoRow.holds Try.pinned (OpenSpec.upto trieNilSpec)

end Rows
end Go.Proofs.Ytphifkbeanneaaa
