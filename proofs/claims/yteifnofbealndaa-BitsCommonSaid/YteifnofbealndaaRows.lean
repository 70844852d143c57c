/-
  No cell of these rows narrows 'for every input' (looked for: loops, veiled, ifaces, maps, wideKeys, modest, calm, conditions, laid).
  DERIVED. THE GIVEN ROWS OF THIS SEAT. 5 by the template 'for every input the law returns true; each argument reads behind the call as it read before'; 0 by the template 'total and deterministic' (their statements: YteifnofbealndaaTotals.lean).
  GIVEN WITH THE SEED: the statements are not yours to turn. If you find one false, say at which input.
  Laid BY PROGRAM, IN A SANDBOX (cutbox-rows.mjs): the forced cells as the released guide's own fill.sh prints them over the translation 7ec646f2cddf1bc2… (all of the seat's roots in one cut). By AI agents, Wed Nov 11 2026. No macro, syntax, notation, axiom, sorry.
-/
import Derived.Test.YteifnofbealndaaChecked
import GoSem.Claim
import GoSem.ClaimJoined
import GoSem.ClaimMapViews
import Derived.JoinedTies
import Derived.KernelRfl
namespace Go.Proofs.Yteifnofbealndaa
/- THE CELL 'sum', in the pinned program and in every row, IS THE sha256 OF THE DUMP (.gsa) THAT YteifnofbealndaaProg.lean LOADS. Nothing in Lean hashes anything: it is a label: what it is worth is what the hold of that sum in a sandbox is worth. -/
noncomputable def Try.pinned : Pinned := { name := "yteifnofbealndaa", sum := "7ec646f2cddf1bc24b3a2117afc76671637c346bc932632c51b3929bb5806fe6", checked := Try.checked }
namespace Rows
def none {H : Type} : Left H := { results := [], args := [] }

/-- 'routinglaw01.BitsMasks': WHATEVER THE INPUT: true; the input reads as it did. -/
def bitsMasksSpec : ChangeSpec := { name := "bitsMasks", fn := fun _ => fun
  | [d1, d2] => { results := [.lit (.bool true)], args := [d1, d2] }
  | _ => none }
def bitsMasksRow : OpenClaim := { program := "yteifnofbealndaa", sum := "7ec646f2cddf1bc24b3a2117afc76671637c346bc932632c51b3929bb5806fe6", func := "routing/routinglaw01.BitsMasks", spec := "bitsMasks", apart := false }
def BitsMasksSaid : Prop := bitsMasksRow.holds Try.pinned (OpenSpec.ofChange bitsMasksSpec)

/-- ITS FALSE NEIGHBOUR: 'it returns false'. Refute it at one input. -/
def bitsMasksWrong : ChangeSpec := { name := "bitsMasks", fn := fun _ => fun
  | [d1, d2] => { results := [.lit (.bool false)], args := [d1, d2] }
  | _ => none }
def BitsMasksWrongFalsely : Prop := bitsMasksRow.holds Try.pinned (OpenSpec.ofChange bitsMasksWrong)

/-- 'routinglaw01.BitsCounts': WHATEVER THE INPUT: true; the input reads as it did. -/
def bitsCountsSpec : ChangeSpec := { name := "bitsCounts", fn := fun _ => fun
  | [d1, d2, d3] => { results := [.lit (.bool true)], args := [d1, d2, d3] }
  | _ => none }
def bitsCountsRow : OpenClaim := { program := "yteifnofbealndaa", sum := "7ec646f2cddf1bc24b3a2117afc76671637c346bc932632c51b3929bb5806fe6", func := "routing/routinglaw01.BitsCounts", spec := "bitsCounts", apart := false }
def BitsCountsSaid : Prop := bitsCountsRow.holds Try.pinned (OpenSpec.ofChange bitsCountsSpec)

/-- ITS FALSE NEIGHBOUR: 'it returns false'. Refute it at one input. -/
def bitsCountsWrong : ChangeSpec := { name := "bitsCounts", fn := fun _ => fun
  | [d1, d2, d3] => { results := [.lit (.bool false)], args := [d1, d2, d3] }
  | _ => none }
def BitsCountsWrongFalsely : Prop := bitsCountsRow.holds Try.pinned (OpenSpec.ofChange bitsCountsWrong)

/-- 'routinglaw01.BitsRanks': WHATEVER THE INPUT: true; the input reads as it did. -/
def bitsRanksSpec : ChangeSpec := { name := "bitsRanks", fn := fun _ => fun
  | [d1, d2] => { results := [.lit (.bool true)], args := [d1, d2] }
  | _ => none }
def bitsRanksRow : OpenClaim := { program := "yteifnofbealndaa", sum := "7ec646f2cddf1bc24b3a2117afc76671637c346bc932632c51b3929bb5806fe6", func := "routing/routinglaw01.BitsRanks", spec := "bitsRanks", apart := false }
def BitsRanksSaid : Prop := bitsRanksRow.holds Try.pinned (OpenSpec.ofChange bitsRanksSpec)

/-- ITS FALSE NEIGHBOUR: 'it returns false'. Refute it at one input. -/
def bitsRanksWrong : ChangeSpec := { name := "bitsRanks", fn := fun _ => fun
  | [d1, d2] => { results := [.lit (.bool false)], args := [d1, d2] }
  | _ => none }
def BitsRanksWrongFalsely : Prop := bitsRanksRow.holds Try.pinned (OpenSpec.ofChange bitsRanksWrong)

/-- 'routinglaw01.BitsSum': WHATEVER THE INPUT: true; the input reads as it did. -/
def bitsSumSpec : ChangeSpec := { name := "bitsSum", fn := fun _ => fun
  | [d] => { results := [.lit (.bool true)], args := [d] }
  | _ => none }
def bitsSumRow : OpenClaim := { program := "yteifnofbealndaa", sum := "7ec646f2cddf1bc24b3a2117afc76671637c346bc932632c51b3929bb5806fe6", func := "routing/routinglaw01.BitsSum", spec := "bitsSum", apart := false }
def BitsSumSaid : Prop := bitsSumRow.holds Try.pinned (OpenSpec.ofChange bitsSumSpec)

/-- ITS FALSE NEIGHBOUR: 'it returns false'. Refute it at one input. -/
def bitsSumWrong : ChangeSpec := { name := "bitsSum", fn := fun _ => fun
  | [d] => { results := [.lit (.bool false)], args := [d] }
  | _ => none }
def BitsSumWrongFalsely : Prop := bitsSumRow.holds Try.pinned (OpenSpec.ofChange bitsSumWrong)

/-- 'routinglaw01.BitsCommon': WHATEVER THE INPUT: true; the input reads as it did. -/
def bitsCommonSpec : ChangeSpec := { name := "bitsCommon", fn := fun _ => fun
  | [d1, d2] => { results := [.lit (.bool true)], args := [d1, d2] }
  | _ => none }
def bitsCommonRow : OpenClaim := { program := "yteifnofbealndaa", sum := "7ec646f2cddf1bc24b3a2117afc76671637c346bc932632c51b3929bb5806fe6", func := "routing/routinglaw01.BitsCommon", spec := "bitsCommon", apart := false }
def BitsCommonSaid : Prop := bitsCommonRow.holds Try.pinned (OpenSpec.ofChange bitsCommonSpec)

/-- ITS FALSE NEIGHBOUR: 'it returns false'. Refute it at one input. -/
def bitsCommonWrong : ChangeSpec := { name := "bitsCommon", fn := fun _ => fun
  | [d1, d2] => { results := [.lit (.bool false)], args := [d1, d2] }
  | _ => none }
def BitsCommonWrongFalsely : Prop := bitsCommonRow.holds Try.pinned (OpenSpec.ofChange bitsCommonWrong)

/- THE SECOND FORM. 'bulk': how many values and letters a reading holds, each counted each time it is reached (what is shared counts as often as it is met; a slice's spare places count too). A statement '..UptoSaid' is the law's where the arguments, and the package variables that the reading takes, are together of bulk at most 1048576: NARROWER than '..Said'. Prove '..Said' where nothing that the law and all that it calls make is longer than what came in: it says more and counts as full. Else prove '..UptoSaid'. A law counts once. -/
mutual
def uptoBulk {H : Type} : DataW H → Nat
  | .lit (.string bytes) => bytes.length + 1
  | .lit _ => 1
  | .nil => 1
  | .ptr d => uptoBulk d + 1
  | .slice elems spare => uptoBulkAll elems + uptoBulkAll spare + 1
  | .agg parts => uptoBulkAll parts + 1
  | .iface _ d => uptoBulk d + 1
  | .map entries => uptoBulkEntries entries + 1
  | .held _ => 1
def uptoBulkAll {H : Type} : List (DataW H) → Nat
  | [] => 0
  | d :: r => uptoBulk d + uptoBulkAll r
def uptoBulkEntries {H : Type} : List (Lit × DataW H) → Nat
  | [] => 0
  | x :: r => uptoBulkEntry x + uptoBulkEntries r
def uptoBulkEntry {H : Type} : Lit × DataW H → Nat
  | (.string bytes, d) => bytes.length + uptoBulk d + 1
  | (_, d) => uptoBulk d + 1
 end
def uptoSmall : (H : Type) → List (DataW H) → Bool := fun _ ds => decide (uptoBulkAll ds ≤ 1048576)
def OpenSpec.upto (s : _root_.Go.ChangeSpec) : _root_.Go.OpenSpec := { _root_.Go.OpenSpec.ofChange s with cond := some uptoSmall }

/-- 'routinglaw01.BitsMasks', WHERE WHAT IT READS IS OF BULK AT MOST 1048576: true; the input reads as it did. -/
def bitsMasksUptoRow : OpenClaim := { program := "yteifnofbealndaa", sum := "7ec646f2cddf1bc24b3a2117afc76671637c346bc932632c51b3929bb5806fe6", func := "routing/routinglaw01.BitsMasks", spec := "bitsMasks", apart := false, narrowed := true }
def BitsMasksUptoSaid : Prop := bitsMasksUptoRow.holds Try.pinned (OpenSpec.upto bitsMasksSpec)

/-- 'routinglaw01.BitsCounts', WHERE WHAT IT READS IS OF BULK AT MOST 1048576: true; the input reads as it did. -/
def bitsCountsUptoRow : OpenClaim := { program := "yteifnofbealndaa", sum := "7ec646f2cddf1bc24b3a2117afc76671637c346bc932632c51b3929bb5806fe6", func := "routing/routinglaw01.BitsCounts", spec := "bitsCounts", apart := false, narrowed := true }
def BitsCountsUptoSaid : Prop := bitsCountsUptoRow.holds Try.pinned (OpenSpec.upto bitsCountsSpec)

/-- 'routinglaw01.BitsRanks', WHERE WHAT IT READS IS OF BULK AT MOST 1048576: true; the input reads as it did. -/
def bitsRanksUptoRow : OpenClaim := { program := "yteifnofbealndaa", sum := "7ec646f2cddf1bc24b3a2117afc76671637c346bc932632c51b3929bb5806fe6", func := "routing/routinglaw01.BitsRanks", spec := "bitsRanks", apart := false, narrowed := true }
def BitsRanksUptoSaid : Prop := bitsRanksUptoRow.holds Try.pinned (OpenSpec.upto bitsRanksSpec)

/-- 'routinglaw01.BitsSum', WHERE WHAT IT READS IS OF BULK AT MOST 1048576: true; the input reads as it did. -/
def bitsSumUptoRow : OpenClaim := { program := "yteifnofbealndaa", sum := "7ec646f2cddf1bc24b3a2117afc76671637c346bc932632c51b3929bb5806fe6", func := "routing/routinglaw01.BitsSum", spec := "bitsSum", apart := false, narrowed := true }
def BitsSumUptoSaid : Prop := bitsSumUptoRow.holds Try.pinned (OpenSpec.upto bitsSumSpec)

/-- 'routinglaw01.BitsCommon', WHERE WHAT IT READS IS OF BULK AT MOST 1048576: true; the input reads as it did. -/
def bitsCommonUptoRow : OpenClaim := { program := "yteifnofbealndaa", sum := "7ec646f2cddf1bc24b3a2117afc76671637c346bc932632c51b3929bb5806fe6", func := "routing/routinglaw01.BitsCommon", spec := "bitsCommon", apart := false, narrowed := true }
def BitsCommonUptoSaid : Prop := bitsCommonUptoRow.holds Try.pinned (OpenSpec.upto bitsCommonSpec)

end Rows
end Go.Proofs.Yteifnofbealndaa
