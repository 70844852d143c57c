/-
  DERIVED. GIVEN WITH THE SEED: THE CARDS: each row of YtgnlhfndjpdpkaaDoorRows.lean that lists a variable, with what it lists TIED to the program's text (the seventh form; the later family's looks); each row that meets fmt, with fmt's text TOLD by the authors' own Lean function (tested against real Go, not proved from fmt's source: count such statements apart). THE CARD IS WHAT COUNTS. Prove the row's statement (the work); the ties are given (YtgnlhfndjpdpkaaDoorTie.lean); close each card by the builder's one call (the guide's Derived/Test/ToyasCard.lean, 'card_holds'). Laid BY PROGRAM, IN A SANDBOX (cutbox-door.mjs). By AI agents, Wed Nov 11 2026. No macro, syntax, notation, axiom, sorry.
-/
import Derived.Test.YtgnlhfndjpdpkaaDoorRows
import GoSem.ClaimSeven
namespace Go.Proofs.YtgnlhfndjpdpkaaDoor
namespace Rows

/-- THE TIED CARD OF 'routinglaw42.DampingCheck'. -/
def dampingCheckCard : Claim7 := { stood := { row := dampingCheckRow, standIns := [], harness := (true, "d4ce62e45bbe75d05d537371d2440663dda836f202161479925392ce28c9bc76"), looks := false }, kinds := [], alts := [], laidByText := true, laidKinds := [.data], laidTests := true, laidLooks := .later }
def DampingCheckCardSaid : Prop := Claim7.holds Tryd.pinned (.plain (OpenSpec.ofChange dampingCheckSpec)) dampingCheckCard

/-- THE TIED CARD OF 'routinglaw42.DampingDecay'. -/
def dampingDecayCard : Claim7 := { stood := { row := dampingDecayRow, standIns := [], harness := (true, "d4ce62e45bbe75d05d537371d2440663dda836f202161479925392ce28c9bc76"), looks := false }, kinds := [], alts := [], laidByText := true, laidKinds := [.data], laidTests := true, laidLooks := .later }
def DampingDecayCardSaid : Prop := Claim7.holds Tryd.pinned (.plain (OpenSpec.ofChange dampingDecaySpec)) dampingDecayCard

/-- THE TIED CARD OF 'routinglaw42.DampingFlaps'. -/
def dampingFlapsCard : Claim7 := { stood := { row := dampingFlapsRow, standIns := [], harness := (true, "d4ce62e45bbe75d05d537371d2440663dda836f202161479925392ce28c9bc76"), looks := false }, kinds := [], alts := [], laidByText := true, laidKinds := [.data], laidTests := true, laidLooks := .later }
def DampingFlapsCardSaid : Prop := Claim7.holds Tryd.pinned (.plain (OpenSpec.ofChange dampingFlapsSpec)) dampingFlapsCard

/-- THE TIED CARD OF 'routinglaw42.DampingReuse'. -/
def dampingReuseCard : Claim7 := { stood := { row := dampingReuseRow, standIns := [], harness := (true, "d4ce62e45bbe75d05d537371d2440663dda836f202161479925392ce28c9bc76"), looks := false }, kinds := [], alts := [], laidByText := true, laidKinds := [.data], laidTests := true, laidLooks := .later }
def DampingReuseCardSaid : Prop := Claim7.holds Tryd.pinned (.plain (OpenSpec.ofChange dampingReuseSpec)) dampingReuseCard

/-- THE TIED CARD OF 'routinglaw42.DampingFalls'. -/
def dampingFallsCard : Claim7 := { stood := { row := dampingFallsRow, standIns := [], harness := (true, "d4ce62e45bbe75d05d537371d2440663dda836f202161479925392ce28c9bc76"), looks := false }, kinds := [], alts := [], laidByText := true, laidKinds := [.data], laidTests := true, laidLooks := .later }
def DampingFallsCardSaid : Prop := Claim7.holds Tryd.pinned (.plain (OpenSpec.ofChange dampingFallsSpec)) dampingFallsCard

/-- THE TIED CARD OF 'routinglaw42.DampingBound'. -/
def dampingBoundCard : Claim7 := { stood := { row := dampingBoundRow, standIns := [], harness := (true, "d4ce62e45bbe75d05d537371d2440663dda836f202161479925392ce28c9bc76"), looks := false }, kinds := [], alts := [], laidByText := true, laidKinds := [.data], laidTests := true, laidLooks := .later }
def DampingBoundCardSaid : Prop := Claim7.holds Tryd.pinned (.plain (OpenSpec.ofChange dampingBoundSpec)) dampingBoundCard

/-- THE TIED CARD OF 'routinglaw42.DampingHalves'. -/
def dampingHalvesCard : Claim7 := { stood := { row := dampingHalvesRow, standIns := [], harness := (true, "d4ce62e45bbe75d05d537371d2440663dda836f202161479925392ce28c9bc76"), looks := false }, kinds := [], alts := [], laidByText := true, laidKinds := [.data], laidTests := true, laidLooks := .later }
def DampingHalvesCardSaid : Prop := Claim7.holds Tryd.pinned (.plain (OpenSpec.ofChange dampingHalvesSpec)) dampingHalvesCard

/-- THE SECOND FORM's CARD OF 'routinglaw42.DampingCheck'. -/
def dampingCheckUptoCard : Claim7 := { stood := { row := dampingCheckUptoRow, standIns := [], harness := (true, "d4ce62e45bbe75d05d537371d2440663dda836f202161479925392ce28c9bc76"), looks := false }, kinds := [], alts := [], laidByText := true, laidKinds := [.data], laidTests := true, laidLooks := .later }
def DampingCheckUptoCardSaid : Prop := Claim7.holds Tryd.pinned (.plain (OpenSpec.upto dampingCheckSpec)) dampingCheckUptoCard

/-- THE SECOND FORM's CARD OF 'routinglaw42.DampingDecay'. -/
def dampingDecayUptoCard : Claim7 := { stood := { row := dampingDecayUptoRow, standIns := [], harness := (true, "d4ce62e45bbe75d05d537371d2440663dda836f202161479925392ce28c9bc76"), looks := false }, kinds := [], alts := [], laidByText := true, laidKinds := [.data], laidTests := true, laidLooks := .later }
def DampingDecayUptoCardSaid : Prop := Claim7.holds Tryd.pinned (.plain (OpenSpec.upto dampingDecaySpec)) dampingDecayUptoCard

/-- THE SECOND FORM's CARD OF 'routinglaw42.DampingFlaps'. -/
def dampingFlapsUptoCard : Claim7 := { stood := { row := dampingFlapsUptoRow, standIns := [], harness := (true, "d4ce62e45bbe75d05d537371d2440663dda836f202161479925392ce28c9bc76"), looks := false }, kinds := [], alts := [], laidByText := true, laidKinds := [.data], laidTests := true, laidLooks := .later }
def DampingFlapsUptoCardSaid : Prop := Claim7.holds Tryd.pinned (.plain (OpenSpec.upto dampingFlapsSpec)) dampingFlapsUptoCard

/-- THE SECOND FORM's CARD OF 'routinglaw42.DampingReuse'. -/
def dampingReuseUptoCard : Claim7 := { stood := { row := dampingReuseUptoRow, standIns := [], harness := (true, "d4ce62e45bbe75d05d537371d2440663dda836f202161479925392ce28c9bc76"), looks := false }, kinds := [], alts := [], laidByText := true, laidKinds := [.data], laidTests := true, laidLooks := .later }
def DampingReuseUptoCardSaid : Prop := Claim7.holds Tryd.pinned (.plain (OpenSpec.upto dampingReuseSpec)) dampingReuseUptoCard

/-- THE SECOND FORM's CARD OF 'routinglaw42.DampingFalls'. -/
def dampingFallsUptoCard : Claim7 := { stood := { row := dampingFallsUptoRow, standIns := [], harness := (true, "d4ce62e45bbe75d05d537371d2440663dda836f202161479925392ce28c9bc76"), looks := false }, kinds := [], alts := [], laidByText := true, laidKinds := [.data], laidTests := true, laidLooks := .later }
def DampingFallsUptoCardSaid : Prop := Claim7.holds Tryd.pinned (.plain (OpenSpec.upto dampingFallsSpec)) dampingFallsUptoCard

/-- THE SECOND FORM's CARD OF 'routinglaw42.DampingBound'. -/
def dampingBoundUptoCard : Claim7 := { stood := { row := dampingBoundUptoRow, standIns := [], harness := (true, "d4ce62e45bbe75d05d537371d2440663dda836f202161479925392ce28c9bc76"), looks := false }, kinds := [], alts := [], laidByText := true, laidKinds := [.data], laidTests := true, laidLooks := .later }
def DampingBoundUptoCardSaid : Prop := Claim7.holds Tryd.pinned (.plain (OpenSpec.upto dampingBoundSpec)) dampingBoundUptoCard

/-- THE SECOND FORM's CARD OF 'routinglaw42.DampingHalves'. -/
def dampingHalvesUptoCard : Claim7 := { stood := { row := dampingHalvesUptoRow, standIns := [], harness := (true, "d4ce62e45bbe75d05d537371d2440663dda836f202161479925392ce28c9bc76"), looks := false }, kinds := [], alts := [], laidByText := true, laidKinds := [.data], laidTests := true, laidLooks := .later }
def DampingHalvesUptoCardSaid : Prop := Claim7.holds Tryd.pinned (.plain (OpenSpec.upto dampingHalvesSpec)) dampingHalvesUptoCard
end Rows
end Go.Proofs.YtgnlhfndjpdpkaaDoor
