/-
  DERIVED. GIVEN WITH THE SEED: THE CARDS: each row of YtkemihfaohkoeaaDoorRows.lean that lists a variable, with what it lists TIED to the program's text (the seventh form; the later family's looks); each row that meets fmt, with fmt's text TOLD by the authors' own Lean function (tested against real Go, not proved from fmt's source: count such statements apart). THE CARD IS WHAT COUNTS. Prove the row's statement (the work); the ties are given (YtkemihfaohkoeaaDoorTie.lean); close each card by the builder's one call (the guide's Derived/Test/ToyasCard.lean, 'card_holds'). Laid BY PROGRAM, IN A SANDBOX (cutbox-door.mjs). By AI agents, Wed Nov 11 2026. No macro, syntax, notation, axiom, sorry.
-/
import Derived.Test.YtkemihfaohkoeaaDoorRows
import GoSem.ClaimSeven
namespace Go.Proofs.YtkemihfaohkoeaaDoor
namespace Rows

/-- THE TIED CARD OF 'eggboxlaw11.GraphPaths'. -/
def graphPathsCard : Claim7 := { stood := { row := graphPathsRow, standIns := [], harness := (true, "726e70ece2c41fbdd2466a35bbb6827f4f135a635a4d7087ea902b1ff45ab39c"), looks := false }, kinds := [], alts := [], laidByText := true, laidKinds := [.data], laidTests := true, laidLooks := .later }
def GraphPathsCardSaid : Prop := Claim7.holds Tryd.pinned (.plain (OpenSpec.ofChange graphPathsSpec)) graphPathsCard

/-- THE TIED CARD OF 'eggboxlaw11.GraphTurned'. -/
def graphTurnedCard : Claim7 := { stood := { row := graphTurnedRow, standIns := [], harness := (true, "726e70ece2c41fbdd2466a35bbb6827f4f135a635a4d7087ea902b1ff45ab39c"), looks := false }, kinds := [], alts := [], laidByText := true, laidKinds := [.data], laidTests := true, laidLooks := .later }
def GraphTurnedCardSaid : Prop := Claim7.holds Tryd.pinned (.plain (OpenSpec.ofChange graphTurnedSpec)) graphTurnedCard

/-- THE SECOND FORM's CARD OF 'eggboxlaw11.GraphPaths'. -/
def graphPathsUptoCard : Claim7 := { stood := { row := graphPathsUptoRow, standIns := [], harness := (true, "726e70ece2c41fbdd2466a35bbb6827f4f135a635a4d7087ea902b1ff45ab39c"), looks := false }, kinds := [], alts := [], laidByText := true, laidKinds := [.data], laidTests := true, laidLooks := .later }
def GraphPathsUptoCardSaid : Prop := Claim7.holds Tryd.pinned (.plain (OpenSpec.upto graphPathsSpec)) graphPathsUptoCard

/-- THE SECOND FORM's CARD OF 'eggboxlaw11.GraphTurned'. -/
def graphTurnedUptoCard : Claim7 := { stood := { row := graphTurnedUptoRow, standIns := [], harness := (true, "726e70ece2c41fbdd2466a35bbb6827f4f135a635a4d7087ea902b1ff45ab39c"), looks := false }, kinds := [], alts := [], laidByText := true, laidKinds := [.data], laidTests := true, laidLooks := .later }
def GraphTurnedUptoCardSaid : Prop := Claim7.holds Tryd.pinned (.plain (OpenSpec.upto graphTurnedSpec)) graphTurnedUptoCard
end Rows
end Go.Proofs.YtkemihfaohkoeaaDoor
