/-
  DERIVED. GIVEN WITH THE SEED: THE CARDS: each row of YtogiidkofddhaaaDoorRows.lean that lists a variable, with what it lists TIED to the program's text (the seventh form; the later family's looks); each row that meets fmt, with fmt's text TOLD by the authors' own Lean function (tested against real Go, not proved from fmt's source: count such statements apart). THE CARD IS WHAT COUNTS. Prove the row's statement (the work); the ties are given (YtogiidkofddhaaaDoorTie.lean); close each card by the builder's one call (the guide's Derived/Test/ToyasCard.lean, 'card_holds'). Laid BY PROGRAM, IN A SANDBOX (cutbox-door.mjs). By AI agents, Wed Nov 11 2026. No macro, syntax, notation, axiom, sorry.
-/
import Derived.Test.YtogiidkofddhaaaDoorRows
import GoSem.ClaimSeven
namespace Go.Proofs.YtogiidkofddhaaaDoor
namespace Rows

/-- THE TIED CARD OF 'almadrabalaw06.BeastsPath'. -/
def beastsPathCard : Claim7 := { stood := { row := beastsPathRow, standIns := [], harness := (true, "3e891b7dab7f18cca7ec79144b906eb0234dc9a588e7c5cdfbd396c00aaa784c"), looks := false }, kinds := [], alts := [], laidByText := true, laidKinds := [.data], laidTests := true, laidLooks := .later }
def BeastsPathCardSaid : Prop := Claim7.holds Tryd.pinned (.plain (OpenSpec.ofChange beastsPathSpec)) beastsPathCard

/-- THE TIED CARD OF 'almadrabalaw06.BeastsBack'. -/
def beastsBackCard : Claim7 := { stood := { row := beastsBackRow, standIns := [], harness := (true, "3e891b7dab7f18cca7ec79144b906eb0234dc9a588e7c5cdfbd396c00aaa784c"), looks := false }, kinds := [], alts := [], laidByText := true, laidKinds := [.data], laidTests := true, laidLooks := .later }
def BeastsBackCardSaid : Prop := Claim7.holds Tryd.pinned (.plain (OpenSpec.ofChange beastsBackSpec)) beastsBackCard

/-- THE TIED CARD OF 'almadrabalaw06.BeastsEach'. -/
def beastsEachCard : Claim7 := { stood := { row := beastsEachRow, standIns := [], harness := (true, "3e891b7dab7f18cca7ec79144b906eb0234dc9a588e7c5cdfbd396c00aaa784c"), looks := false }, kinds := [], alts := [], laidByText := true, laidKinds := [.data], laidTests := true, laidLooks := .later }
def BeastsEachCardSaid : Prop := Claim7.holds Tryd.pinned (.plain (OpenSpec.ofChange beastsEachSpec)) beastsEachCard

/-- THE TIED CARD OF 'almadrabalaw06.BeastsKnown'. -/
def beastsKnownCard : Claim7 := { stood := { row := beastsKnownRow, standIns := [], harness := (true, "3e891b7dab7f18cca7ec79144b906eb0234dc9a588e7c5cdfbd396c00aaa784c"), looks := false }, kinds := [], alts := [], laidByText := true, laidKinds := [.data], laidTests := true, laidLooks := .later }
def BeastsKnownCardSaid : Prop := Claim7.holds Tryd.pinned (.plain (OpenSpec.ofChange beastsKnownSpec)) beastsKnownCard

/-- THE TIED CARD OF 'almadrabalaw06.BeastsScript'. -/
def beastsScriptCard : Claim7 := { stood := { row := beastsScriptRow, standIns := [], harness := (true, "3e891b7dab7f18cca7ec79144b906eb0234dc9a588e7c5cdfbd396c00aaa784c"), looks := false }, kinds := [], alts := [], laidByText := true, laidKinds := [.data], laidTests := true, laidLooks := .later }
def BeastsScriptCardSaid : Prop := Claim7.holds Tryd.pinned (.plain (OpenSpec.ofChange beastsScriptSpec)) beastsScriptCard

/-- THE TIED CARD OF 'almadrabalaw06.BeastsLeast'. -/
def beastsLeastCard : Claim7 := { stood := { row := beastsLeastRow, standIns := [], harness := (true, "3e891b7dab7f18cca7ec79144b906eb0234dc9a588e7c5cdfbd396c00aaa784c"), looks := false }, kinds := [], alts := [], laidByText := true, laidKinds := [.data], laidTests := true, laidLooks := .later }
def BeastsLeastCardSaid : Prop := Claim7.holds Tryd.pinned (.plain (OpenSpec.ofChange beastsLeastSpec)) beastsLeastCard

/-- THE TIED CARD OF 'almadrabalaw06.BeastsTrapped'. -/
def beastsTrappedCard : Claim7 := { stood := { row := beastsTrappedRow, standIns := [], harness := (true, "3e891b7dab7f18cca7ec79144b906eb0234dc9a588e7c5cdfbd396c00aaa784c"), looks := false }, kinds := [], alts := [], laidByText := true, laidKinds := [.data], laidTests := true, laidLooks := .later }
def BeastsTrappedCardSaid : Prop := Claim7.holds Tryd.pinned (.plain (OpenSpec.ofChange beastsTrappedSpec)) beastsTrappedCard

/-- THE TIED CARD OF 'almadrabalaw06.BeastsBlind'. -/
def beastsBlindCard : Claim7 := { stood := { row := beastsBlindRow, standIns := [], harness := (true, "3e891b7dab7f18cca7ec79144b906eb0234dc9a588e7c5cdfbd396c00aaa784c"), looks := false }, kinds := [], alts := [], laidByText := true, laidKinds := [.data], laidTests := true, laidLooks := .later }
def BeastsBlindCardSaid : Prop := Claim7.holds Tryd.pinned (.plain (OpenSpec.ofChange beastsBlindSpec)) beastsBlindCard

/-- THE TIED CARD OF 'almadrabalaw06.BeastsCosts'. -/
def beastsCostsCard : Claim7 := { stood := { row := beastsCostsRow, standIns := [], harness := (true, "3e891b7dab7f18cca7ec79144b906eb0234dc9a588e7c5cdfbd396c00aaa784c"), looks := false }, kinds := [], alts := [], laidByText := true, laidKinds := [.data], laidTests := true, laidLooks := .later }
def BeastsCostsCardSaid : Prop := Claim7.holds Tryd.pinned (.plain (OpenSpec.ofChange beastsCostsSpec)) beastsCostsCard

/-- THE TIED CARD OF 'almadrabalaw06.BeastsTimes'. -/
def beastsTimesCard : Claim7 := { stood := { row := beastsTimesRow, standIns := [], harness := (true, "3e891b7dab7f18cca7ec79144b906eb0234dc9a588e7c5cdfbd396c00aaa784c"), looks := false }, kinds := [], alts := [], laidByText := true, laidKinds := [.data], laidTests := true, laidLooks := .later }
def BeastsTimesCardSaid : Prop := Claim7.holds Tryd.pinned (.plain (OpenSpec.ofChange beastsTimesSpec)) beastsTimesCard

/-- THE TIED CARD OF 'almadrabalaw06.BeastsRun'. -/
def beastsRunCard : Claim7 := { stood := { row := beastsRunRow, standIns := [], harness := (true, "3e891b7dab7f18cca7ec79144b906eb0234dc9a588e7c5cdfbd396c00aaa784c"), looks := false }, kinds := [], alts := [], laidByText := true, laidKinds := [.data], laidTests := true, laidLooks := .later }
def BeastsRunCardSaid : Prop := Claim7.holds Tryd.pinned (.plain (OpenSpec.ofChange beastsRunSpec)) beastsRunCard

/-- THE TIED CARD OF 'almadrabalaw06.BeastsAfter'. -/
def beastsAfterCard : Claim7 := { stood := { row := beastsAfterRow, standIns := [], harness := (true, "3e891b7dab7f18cca7ec79144b906eb0234dc9a588e7c5cdfbd396c00aaa784c"), looks := false }, kinds := [], alts := [], laidByText := true, laidKinds := [.data], laidTests := true, laidLooks := .later }
def BeastsAfterCardSaid : Prop := Claim7.holds Tryd.pinned (.plain (OpenSpec.ofChange beastsAfterSpec)) beastsAfterCard

/-- THE SECOND FORM's CARD OF 'almadrabalaw06.BeastsPath'. -/
def beastsPathUptoCard : Claim7 := { stood := { row := beastsPathUptoRow, standIns := [], harness := (true, "3e891b7dab7f18cca7ec79144b906eb0234dc9a588e7c5cdfbd396c00aaa784c"), looks := false }, kinds := [], alts := [], laidByText := true, laidKinds := [.data], laidTests := true, laidLooks := .later }
def BeastsPathUptoCardSaid : Prop := Claim7.holds Tryd.pinned (.plain (OpenSpec.upto beastsPathSpec)) beastsPathUptoCard

/-- THE SECOND FORM's CARD OF 'almadrabalaw06.BeastsBack'. -/
def beastsBackUptoCard : Claim7 := { stood := { row := beastsBackUptoRow, standIns := [], harness := (true, "3e891b7dab7f18cca7ec79144b906eb0234dc9a588e7c5cdfbd396c00aaa784c"), looks := false }, kinds := [], alts := [], laidByText := true, laidKinds := [.data], laidTests := true, laidLooks := .later }
def BeastsBackUptoCardSaid : Prop := Claim7.holds Tryd.pinned (.plain (OpenSpec.upto beastsBackSpec)) beastsBackUptoCard

/-- THE SECOND FORM's CARD OF 'almadrabalaw06.BeastsEach'. -/
def beastsEachUptoCard : Claim7 := { stood := { row := beastsEachUptoRow, standIns := [], harness := (true, "3e891b7dab7f18cca7ec79144b906eb0234dc9a588e7c5cdfbd396c00aaa784c"), looks := false }, kinds := [], alts := [], laidByText := true, laidKinds := [.data], laidTests := true, laidLooks := .later }
def BeastsEachUptoCardSaid : Prop := Claim7.holds Tryd.pinned (.plain (OpenSpec.upto beastsEachSpec)) beastsEachUptoCard

/-- THE SECOND FORM's CARD OF 'almadrabalaw06.BeastsKnown'. -/
def beastsKnownUptoCard : Claim7 := { stood := { row := beastsKnownUptoRow, standIns := [], harness := (true, "3e891b7dab7f18cca7ec79144b906eb0234dc9a588e7c5cdfbd396c00aaa784c"), looks := false }, kinds := [], alts := [], laidByText := true, laidKinds := [.data], laidTests := true, laidLooks := .later }
def BeastsKnownUptoCardSaid : Prop := Claim7.holds Tryd.pinned (.plain (OpenSpec.upto beastsKnownSpec)) beastsKnownUptoCard

/-- THE SECOND FORM's CARD OF 'almadrabalaw06.BeastsScript'. -/
def beastsScriptUptoCard : Claim7 := { stood := { row := beastsScriptUptoRow, standIns := [], harness := (true, "3e891b7dab7f18cca7ec79144b906eb0234dc9a588e7c5cdfbd396c00aaa784c"), looks := false }, kinds := [], alts := [], laidByText := true, laidKinds := [.data], laidTests := true, laidLooks := .later }
def BeastsScriptUptoCardSaid : Prop := Claim7.holds Tryd.pinned (.plain (OpenSpec.upto beastsScriptSpec)) beastsScriptUptoCard

/-- THE SECOND FORM's CARD OF 'almadrabalaw06.BeastsLeast'. -/
def beastsLeastUptoCard : Claim7 := { stood := { row := beastsLeastUptoRow, standIns := [], harness := (true, "3e891b7dab7f18cca7ec79144b906eb0234dc9a588e7c5cdfbd396c00aaa784c"), looks := false }, kinds := [], alts := [], laidByText := true, laidKinds := [.data], laidTests := true, laidLooks := .later }
def BeastsLeastUptoCardSaid : Prop := Claim7.holds Tryd.pinned (.plain (OpenSpec.upto beastsLeastSpec)) beastsLeastUptoCard

/-- THE SECOND FORM's CARD OF 'almadrabalaw06.BeastsTrapped'. -/
def beastsTrappedUptoCard : Claim7 := { stood := { row := beastsTrappedUptoRow, standIns := [], harness := (true, "3e891b7dab7f18cca7ec79144b906eb0234dc9a588e7c5cdfbd396c00aaa784c"), looks := false }, kinds := [], alts := [], laidByText := true, laidKinds := [.data], laidTests := true, laidLooks := .later }
def BeastsTrappedUptoCardSaid : Prop := Claim7.holds Tryd.pinned (.plain (OpenSpec.upto beastsTrappedSpec)) beastsTrappedUptoCard

/-- THE SECOND FORM's CARD OF 'almadrabalaw06.BeastsBlind'. -/
def beastsBlindUptoCard : Claim7 := { stood := { row := beastsBlindUptoRow, standIns := [], harness := (true, "3e891b7dab7f18cca7ec79144b906eb0234dc9a588e7c5cdfbd396c00aaa784c"), looks := false }, kinds := [], alts := [], laidByText := true, laidKinds := [.data], laidTests := true, laidLooks := .later }
def BeastsBlindUptoCardSaid : Prop := Claim7.holds Tryd.pinned (.plain (OpenSpec.upto beastsBlindSpec)) beastsBlindUptoCard

/-- THE SECOND FORM's CARD OF 'almadrabalaw06.BeastsCosts'. -/
def beastsCostsUptoCard : Claim7 := { stood := { row := beastsCostsUptoRow, standIns := [], harness := (true, "3e891b7dab7f18cca7ec79144b906eb0234dc9a588e7c5cdfbd396c00aaa784c"), looks := false }, kinds := [], alts := [], laidByText := true, laidKinds := [.data], laidTests := true, laidLooks := .later }
def BeastsCostsUptoCardSaid : Prop := Claim7.holds Tryd.pinned (.plain (OpenSpec.upto beastsCostsSpec)) beastsCostsUptoCard

/-- THE SECOND FORM's CARD OF 'almadrabalaw06.BeastsTimes'. -/
def beastsTimesUptoCard : Claim7 := { stood := { row := beastsTimesUptoRow, standIns := [], harness := (true, "3e891b7dab7f18cca7ec79144b906eb0234dc9a588e7c5cdfbd396c00aaa784c"), looks := false }, kinds := [], alts := [], laidByText := true, laidKinds := [.data], laidTests := true, laidLooks := .later }
def BeastsTimesUptoCardSaid : Prop := Claim7.holds Tryd.pinned (.plain (OpenSpec.upto beastsTimesSpec)) beastsTimesUptoCard

/-- THE SECOND FORM's CARD OF 'almadrabalaw06.BeastsRun'. -/
def beastsRunUptoCard : Claim7 := { stood := { row := beastsRunUptoRow, standIns := [], harness := (true, "3e891b7dab7f18cca7ec79144b906eb0234dc9a588e7c5cdfbd396c00aaa784c"), looks := false }, kinds := [], alts := [], laidByText := true, laidKinds := [.data], laidTests := true, laidLooks := .later }
def BeastsRunUptoCardSaid : Prop := Claim7.holds Tryd.pinned (.plain (OpenSpec.upto beastsRunSpec)) beastsRunUptoCard

/-- THE SECOND FORM's CARD OF 'almadrabalaw06.BeastsAfter'. -/
def beastsAfterUptoCard : Claim7 := { stood := { row := beastsAfterUptoRow, standIns := [], harness := (true, "3e891b7dab7f18cca7ec79144b906eb0234dc9a588e7c5cdfbd396c00aaa784c"), looks := false }, kinds := [], alts := [], laidByText := true, laidKinds := [.data], laidTests := true, laidLooks := .later }
def BeastsAfterUptoCardSaid : Prop := Claim7.holds Tryd.pinned (.plain (OpenSpec.upto beastsAfterSpec)) beastsAfterUptoCard
end Rows
end Go.Proofs.YtogiidkofddhaaaDoor
