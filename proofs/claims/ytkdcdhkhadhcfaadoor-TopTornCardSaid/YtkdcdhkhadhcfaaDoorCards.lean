/-
  DERIVED. GIVEN WITH THE SEED: THE CARDS: each row of YtkdcdhkhadhcfaaDoorRows.lean that lists a variable, with what it lists TIED to the program's text (the seventh form; the later family's looks); each row that meets fmt, with fmt's text TOLD by the authors' own Lean function (tested against real Go, not proved from fmt's source: count such statements apart). THE CARD IS WHAT COUNTS. Prove the row's statement (the work); the ties are given (YtkdcdhkhadhcfaaDoorTie.lean); close each card by the builder's one call (the guide's Derived/Test/ToyasCard.lean, 'card_holds'). Laid BY PROGRAM, IN A SANDBOX (cutbox-door.mjs). By AI agents, Wed Nov 11 2026. No macro, syntax, notation, axiom, sorry.
-/
import Derived.Test.YtkdcdhkhadhcfaaDoorRows
import GoSem.ClaimSeven
namespace Go.Proofs.YtkdcdhkhadhcfaaDoor
namespace Rows

/-- THE TIED CARD OF 'almadrabatop.TopHeld'. -/
def topHeldCard : Claim7 := { stood := { row := topHeldRow, standIns := [], harness := (true, "40d78c46402a1dad938f63a32a7034f0b81a09074e998e141e93955bde64a5ae"), looks := false }, kinds := [], alts := [], laidByText := true, laidKinds := [.data, .data], laidTests := true, laidLooks := .later }
def TopHeldCardSaid : Prop := Claim7.holds Tryd.pinned (.plain (OpenSpec.ofChange topHeldSpec)) topHeldCard

/-- THE TIED CARD OF 'almadrabatop.TopTorn'. -/
def topTornCard : Claim7 := { stood := { row := topTornRow, standIns := [], harness := (true, "40d78c46402a1dad938f63a32a7034f0b81a09074e998e141e93955bde64a5ae"), looks := false }, kinds := [], alts := [], laidByText := true, laidKinds := [.data, .data], laidTests := true, laidLooks := .later }
def TopTornCardSaid : Prop := Claim7.holds Tryd.pinned (.plain (OpenSpec.ofChange topTornSpec)) topTornCard

/-- THE SECOND FORM's CARD OF 'almadrabatop.TopHeld'. -/
def topHeldUptoCard : Claim7 := { stood := { row := topHeldUptoRow, standIns := [], harness := (true, "40d78c46402a1dad938f63a32a7034f0b81a09074e998e141e93955bde64a5ae"), looks := false }, kinds := [], alts := [], laidByText := true, laidKinds := [.data, .data], laidTests := true, laidLooks := .later }
def TopHeldUptoCardSaid : Prop := Claim7.holds Tryd.pinned (.plain (OpenSpec.upto topHeldSpec)) topHeldUptoCard

/-- THE SECOND FORM's CARD OF 'almadrabatop.TopTorn'. -/
def topTornUptoCard : Claim7 := { stood := { row := topTornUptoRow, standIns := [], harness := (true, "40d78c46402a1dad938f63a32a7034f0b81a09074e998e141e93955bde64a5ae"), looks := false }, kinds := [], alts := [], laidByText := true, laidKinds := [.data, .data], laidTests := true, laidLooks := .later }
def TopTornUptoCardSaid : Prop := Claim7.holds Tryd.pinned (.plain (OpenSpec.upto topTornSpec)) topTornUptoCard
end Rows
end Go.Proofs.YtkdcdhkhadhcfaaDoor
