/-
  DERIVED. GIVEN WITH THE SEED: THE CARDS: each row of YtnbjfkjpaaoooaaDoorRows.lean that lists a variable, with what it lists TIED to the program's text (the seventh form; the later family's looks); each row that meets fmt, with fmt's text TOLD by the authors' own Lean function (tested against real Go, not proved from fmt's source: count such statements apart). THE CARD IS WHAT COUNTS. Prove the row's statement (the work); the ties are given (YtnbjfkjpaaoooaaDoorTie.lean); close each card by the builder's one call (the guide's Derived/Test/ToyasCard.lean, 'card_holds'). Laid BY PROGRAM, IN A SANDBOX (cutbox-door.mjs). By AI agents, Wed Nov 11 2026. No macro, syntax, notation, axiom, sorry.
-/
import Derived.Test.YtnbjfkjpaaoooaaDoorRows
import GoSem.ClaimSeven
namespace Go.Proofs.YtnbjfkjpaaoooaaDoor
namespace Rows

/-- THE TIED CARD OF 'laws.FnExactContourValid'. -/
def fnExactContourValidCard : Claim7 := { stood := { row := fnExactContourValidRow, standIns := [], harness := (true, "37b5d5751ccff384a08da00469a30a9419886d60fb9714385a13d55bafe5aa72"), looks := false }, kinds := [], alts := [], laidByText := true, laidKinds := [.data, .pinned], laidTests := true, laidLooks := .later }
def FnExactContourValidCardSaid : Prop := Claim7.holds Tryd.pinned (.plain (OpenSpec.ofChange fnExactContourValidSpec)) fnExactContourValidCard

/-- THE TIED CARD OF 'laws.FnExactNeumeName'. -/
def fnExactNeumeNameCard : Claim7 := { stood := { row := fnExactNeumeNameRow, standIns := [], harness := (true, "37b5d5751ccff384a08da00469a30a9419886d60fb9714385a13d55bafe5aa72"), looks := false }, kinds := [], alts := [], laidByText := true, laidKinds := [.data, .data, .pinned], laidTests := true, laidLooks := .later }
def FnExactNeumeNameCardSaid : Prop := Claim7.holds Tryd.pinned (.plain (OpenSpec.ofChange fnExactNeumeNameSpec)) fnExactNeumeNameCard

/-- THE TIED CARD OF 'laws.FnExactContourBack'. -/
def fnExactContourBackCard : Claim7 := { stood := { row := fnExactContourBackRow, standIns := [], harness := (true, "37b5d5751ccff384a08da00469a30a9419886d60fb9714385a13d55bafe5aa72"), looks := false }, kinds := [], alts := [], laidByText := true, laidKinds := [.data, .pinned], laidTests := true, laidLooks := .later }
def FnExactContourBackCardSaid : Prop := Claim7.holds Tryd.pinned (.plain (OpenSpec.ofChange fnExactContourBackSpec)) fnExactContourBackCard

/-- THE TIED CARD OF 'laws.FnExactContourTurn'. -/
def fnExactContourTurnCard : Claim7 := { stood := { row := fnExactContourTurnRow, standIns := [], harness := (true, "37b5d5751ccff384a08da00469a30a9419886d60fb9714385a13d55bafe5aa72"), looks := false }, kinds := [], alts := [], laidByText := true, laidKinds := [.data, .pinned], laidTests := true, laidLooks := .later }
def FnExactContourTurnCardSaid : Prop := Claim7.holds Tryd.pinned (.plain (OpenSpec.ofChange fnExactContourTurnSpec)) fnExactContourTurnCard

/-- THE TIED CARD OF 'laws.FnExactContourLeast'. -/
def fnExactContourLeastCard : Claim7 := { stood := { row := fnExactContourLeastRow, standIns := [], harness := (true, "37b5d5751ccff384a08da00469a30a9419886d60fb9714385a13d55bafe5aa72"), looks := false }, kinds := [], alts := [], laidByText := true, laidKinds := [.data, .pinned], laidTests := true, laidLooks := .later }
def FnExactContourLeastCardSaid : Prop := Claim7.holds Tryd.pinned (.plain (OpenSpec.ofChange fnExactContourLeastSpec)) fnExactContourLeastCard

/-- THE TIED CARD OF 'laws.FnExactContourMany'. -/
def fnExactContourManyCard : Claim7 := { stood := { row := fnExactContourManyRow, standIns := [], harness := (true, "37b5d5751ccff384a08da00469a30a9419886d60fb9714385a13d55bafe5aa72"), looks := false }, kinds := [], alts := [], laidByText := true, laidKinds := [.data, .pinned], laidTests := true, laidLooks := .later }
def FnExactContourManyCardSaid : Prop := Claim7.holds Tryd.pinned (.plain (OpenSpec.ofChange fnExactContourManySpec)) fnExactContourManyCard

/-- THE TIED CARD OF 'laws.FnExactNeumeContour'. -/
def fnExactNeumeContourCard : Claim7 := { stood := { row := fnExactNeumeContourRow, standIns := [], harness := (true, "37b5d5751ccff384a08da00469a30a9419886d60fb9714385a13d55bafe5aa72"), looks := false }, kinds := [], alts := [], laidByText := true, laidKinds := [.data, .data, .pinned], laidTests := true, laidLooks := .later }
def FnExactNeumeContourCardSaid : Prop := Claim7.holds Tryd.pinned (.plain (OpenSpec.ofChange fnExactNeumeContourSpec)) fnExactNeumeContourCard

/-- THE TIED CARD OF 'laws.FnContourLower'. -/
def fnContourLowerCard : Claim7 := { stood := { row := fnContourLowerRow, standIns := [], harness := (true, "37b5d5751ccff384a08da00469a30a9419886d60fb9714385a13d55bafe5aa72"), looks := false }, kinds := [], alts := [], laidByText := true, laidKinds := [.data, .pinned], laidTests := true, laidLooks := .later }
def FnContourLowerCardSaid : Prop := Claim7.holds Tryd.pinned (.plain (OpenSpec.ofChange fnContourLowerSpec)) fnContourLowerCard

/-- THE TIED CARD OF 'laws.FnContourTurn'. -/
def fnContourTurnCard : Claim7 := { stood := { row := fnContourTurnRow, standIns := [], harness := (true, "37b5d5751ccff384a08da00469a30a9419886d60fb9714385a13d55bafe5aa72"), looks := false }, kinds := [], alts := [], laidByText := true, laidKinds := [.data, .pinned], laidTests := true, laidLooks := .later }
def FnContourTurnCardSaid : Prop := Claim7.holds Tryd.pinned (.plain (OpenSpec.ofChange fnContourTurnSpec)) fnContourTurnCard

/-- THE TIED CARD OF 'laws.FnNeumeName'. -/
def fnNeumeNameCard : Claim7 := { stood := { row := fnNeumeNameRow, standIns := [], harness := (true, "37b5d5751ccff384a08da00469a30a9419886d60fb9714385a13d55bafe5aa72"), looks := false }, kinds := [], alts := [], laidByText := true, laidKinds := [.data, .data, .pinned], laidTests := true, laidLooks := .later }
def FnNeumeNameCardSaid : Prop := Claim7.holds Tryd.pinned (.plain (OpenSpec.ofChange fnNeumeNameSpec)) fnNeumeNameCard

/-- THE TIED CARD OF 'laws.FnContourMany'. -/
def fnContourManyCard : Claim7 := { stood := { row := fnContourManyRow, standIns := [], harness := (true, "37b5d5751ccff384a08da00469a30a9419886d60fb9714385a13d55bafe5aa72"), looks := false }, kinds := [], alts := [], laidByText := true, laidKinds := [.data, .pinned], laidTests := true, laidLooks := .later }
def FnContourManyCardSaid : Prop := Claim7.holds Tryd.pinned (.plain (OpenSpec.ofChange fnContourManySpec)) fnContourManyCard

/-- THE TIED CARD OF 'laws.FnContourLeast'. -/
def fnContourLeastCard : Claim7 := { stood := { row := fnContourLeastRow, standIns := [], harness := (true, "37b5d5751ccff384a08da00469a30a9419886d60fb9714385a13d55bafe5aa72"), looks := false }, kinds := [], alts := [], laidByText := true, laidKinds := [.data, .pinned], laidTests := true, laidLooks := .later }
def FnContourLeastCardSaid : Prop := Claim7.holds Tryd.pinned (.plain (OpenSpec.ofChange fnContourLeastSpec)) fnContourLeastCard

/-- THE SECOND FORM's CARD OF 'laws.FnExactContourValid'. -/
def fnExactContourValidUptoCard : Claim7 := { stood := { row := fnExactContourValidUptoRow, standIns := [], harness := (true, "37b5d5751ccff384a08da00469a30a9419886d60fb9714385a13d55bafe5aa72"), looks := false }, kinds := [], alts := [], laidByText := true, laidKinds := [.data, .pinned], laidTests := true, laidLooks := .later }
def FnExactContourValidUptoCardSaid : Prop := Claim7.holds Tryd.pinned (.plain (OpenSpec.upto fnExactContourValidSpec)) fnExactContourValidUptoCard

/-- THE SECOND FORM's CARD OF 'laws.FnExactNeumeName'. -/
def fnExactNeumeNameUptoCard : Claim7 := { stood := { row := fnExactNeumeNameUptoRow, standIns := [], harness := (true, "37b5d5751ccff384a08da00469a30a9419886d60fb9714385a13d55bafe5aa72"), looks := false }, kinds := [], alts := [], laidByText := true, laidKinds := [.data, .data, .pinned], laidTests := true, laidLooks := .later }
def FnExactNeumeNameUptoCardSaid : Prop := Claim7.holds Tryd.pinned (.plain (OpenSpec.upto fnExactNeumeNameSpec)) fnExactNeumeNameUptoCard

/-- THE SECOND FORM's CARD OF 'laws.FnExactContourBack'. -/
def fnExactContourBackUptoCard : Claim7 := { stood := { row := fnExactContourBackUptoRow, standIns := [], harness := (true, "37b5d5751ccff384a08da00469a30a9419886d60fb9714385a13d55bafe5aa72"), looks := false }, kinds := [], alts := [], laidByText := true, laidKinds := [.data, .pinned], laidTests := true, laidLooks := .later }
def FnExactContourBackUptoCardSaid : Prop := Claim7.holds Tryd.pinned (.plain (OpenSpec.upto fnExactContourBackSpec)) fnExactContourBackUptoCard

/-- THE SECOND FORM's CARD OF 'laws.FnExactContourTurn'. -/
def fnExactContourTurnUptoCard : Claim7 := { stood := { row := fnExactContourTurnUptoRow, standIns := [], harness := (true, "37b5d5751ccff384a08da00469a30a9419886d60fb9714385a13d55bafe5aa72"), looks := false }, kinds := [], alts := [], laidByText := true, laidKinds := [.data, .pinned], laidTests := true, laidLooks := .later }
def FnExactContourTurnUptoCardSaid : Prop := Claim7.holds Tryd.pinned (.plain (OpenSpec.upto fnExactContourTurnSpec)) fnExactContourTurnUptoCard

/-- THE SECOND FORM's CARD OF 'laws.FnExactContourLeast'. -/
def fnExactContourLeastUptoCard : Claim7 := { stood := { row := fnExactContourLeastUptoRow, standIns := [], harness := (true, "37b5d5751ccff384a08da00469a30a9419886d60fb9714385a13d55bafe5aa72"), looks := false }, kinds := [], alts := [], laidByText := true, laidKinds := [.data, .pinned], laidTests := true, laidLooks := .later }
def FnExactContourLeastUptoCardSaid : Prop := Claim7.holds Tryd.pinned (.plain (OpenSpec.upto fnExactContourLeastSpec)) fnExactContourLeastUptoCard

/-- THE SECOND FORM's CARD OF 'laws.FnExactContourMany'. -/
def fnExactContourManyUptoCard : Claim7 := { stood := { row := fnExactContourManyUptoRow, standIns := [], harness := (true, "37b5d5751ccff384a08da00469a30a9419886d60fb9714385a13d55bafe5aa72"), looks := false }, kinds := [], alts := [], laidByText := true, laidKinds := [.data, .pinned], laidTests := true, laidLooks := .later }
def FnExactContourManyUptoCardSaid : Prop := Claim7.holds Tryd.pinned (.plain (OpenSpec.upto fnExactContourManySpec)) fnExactContourManyUptoCard

/-- THE SECOND FORM's CARD OF 'laws.FnExactNeumeContour'. -/
def fnExactNeumeContourUptoCard : Claim7 := { stood := { row := fnExactNeumeContourUptoRow, standIns := [], harness := (true, "37b5d5751ccff384a08da00469a30a9419886d60fb9714385a13d55bafe5aa72"), looks := false }, kinds := [], alts := [], laidByText := true, laidKinds := [.data, .data, .pinned], laidTests := true, laidLooks := .later }
def FnExactNeumeContourUptoCardSaid : Prop := Claim7.holds Tryd.pinned (.plain (OpenSpec.upto fnExactNeumeContourSpec)) fnExactNeumeContourUptoCard

/-- THE SECOND FORM's CARD OF 'laws.FnContourLower'. -/
def fnContourLowerUptoCard : Claim7 := { stood := { row := fnContourLowerUptoRow, standIns := [], harness := (true, "37b5d5751ccff384a08da00469a30a9419886d60fb9714385a13d55bafe5aa72"), looks := false }, kinds := [], alts := [], laidByText := true, laidKinds := [.data, .pinned], laidTests := true, laidLooks := .later }
def FnContourLowerUptoCardSaid : Prop := Claim7.holds Tryd.pinned (.plain (OpenSpec.upto fnContourLowerSpec)) fnContourLowerUptoCard

/-- THE SECOND FORM's CARD OF 'laws.FnContourTurn'. -/
def fnContourTurnUptoCard : Claim7 := { stood := { row := fnContourTurnUptoRow, standIns := [], harness := (true, "37b5d5751ccff384a08da00469a30a9419886d60fb9714385a13d55bafe5aa72"), looks := false }, kinds := [], alts := [], laidByText := true, laidKinds := [.data, .pinned], laidTests := true, laidLooks := .later }
def FnContourTurnUptoCardSaid : Prop := Claim7.holds Tryd.pinned (.plain (OpenSpec.upto fnContourTurnSpec)) fnContourTurnUptoCard

/-- THE SECOND FORM's CARD OF 'laws.FnNeumeName'. -/
def fnNeumeNameUptoCard : Claim7 := { stood := { row := fnNeumeNameUptoRow, standIns := [], harness := (true, "37b5d5751ccff384a08da00469a30a9419886d60fb9714385a13d55bafe5aa72"), looks := false }, kinds := [], alts := [], laidByText := true, laidKinds := [.data, .data, .pinned], laidTests := true, laidLooks := .later }
def FnNeumeNameUptoCardSaid : Prop := Claim7.holds Tryd.pinned (.plain (OpenSpec.upto fnNeumeNameSpec)) fnNeumeNameUptoCard

/-- THE SECOND FORM's CARD OF 'laws.FnContourMany'. -/
def fnContourManyUptoCard : Claim7 := { stood := { row := fnContourManyUptoRow, standIns := [], harness := (true, "37b5d5751ccff384a08da00469a30a9419886d60fb9714385a13d55bafe5aa72"), looks := false }, kinds := [], alts := [], laidByText := true, laidKinds := [.data, .pinned], laidTests := true, laidLooks := .later }
def FnContourManyUptoCardSaid : Prop := Claim7.holds Tryd.pinned (.plain (OpenSpec.upto fnContourManySpec)) fnContourManyUptoCard

/-- THE SECOND FORM's CARD OF 'laws.FnContourLeast'. -/
def fnContourLeastUptoCard : Claim7 := { stood := { row := fnContourLeastUptoRow, standIns := [], harness := (true, "37b5d5751ccff384a08da00469a30a9419886d60fb9714385a13d55bafe5aa72"), looks := false }, kinds := [], alts := [], laidByText := true, laidKinds := [.data, .pinned], laidTests := true, laidLooks := .later }
def FnContourLeastUptoCardSaid : Prop := Claim7.holds Tryd.pinned (.plain (OpenSpec.upto fnContourLeastSpec)) fnContourLeastUptoCard
end Rows
end Go.Proofs.YtnbjfkjpaaoooaaDoor
