/-
  DERIVED. GIVEN WITH THE SEED: THE CARDS: each row of YtiddkhhcophbfaaDoorRows.lean that lists a variable, with what it lists TIED to the program's text (the seventh form; the later family's looks); each row that meets fmt, with fmt's text TOLD by the authors' own Lean function (tested against real Go, not proved from fmt's source: count such statements apart). THE CARD IS WHAT COUNTS. Prove the row's statement (the work); the ties are given (YtiddkhhcophbfaaDoorTie.lean); close each card by the builder's one call (the guide's Derived/Test/ToyasCard.lean, 'card_holds'). Laid BY PROGRAM, IN A SANDBOX (cutbox-door.mjs). By AI agents, Wed Nov 11 2026. No macro, syntax, notation, axiom, sorry.
-/
import Derived.Test.YtiddkhhcophbfaaDoorRows
import GoSem.ClaimSeven
namespace Go.Proofs.YtiddkhhcophbfaaDoor
namespace Rows

/-- THE TIED CARD OF 'laws.FnMelodySteps'. -/
def fnMelodyStepsCard : Claim7 := { stood := { row := fnMelodyStepsRow, standIns := [], harness := (true, "8f69a472ab9f26a040c177c8d173b15125b493388ea5177262ccce7ac41612b2"), looks := false }, kinds := [], alts := [], laidByText := true, laidKinds := [.data], laidTests := true, laidLooks := .later }
def FnMelodyStepsCardSaid : Prop := Claim7.holds Tryd.pinned (.plain (OpenSpec.ofChange fnMelodyStepsSpec)) fnMelodyStepsCard

/-- THE TIED CARD OF 'laws.FnExactModeIn'. -/
def fnExactModeInCard : Claim7 := { stood := { row := fnExactModeInRow, standIns := [], harness := (true, "8f69a472ab9f26a040c177c8d173b15125b493388ea5177262ccce7ac41612b2"), looks := false }, kinds := [], alts := [], laidByText := true, laidKinds := [.data], laidTests := true, laidLooks := .later }
def FnExactModeInCardSaid : Prop := Claim7.holds Tryd.pinned (.plain (OpenSpec.ofChange fnExactModeInSpec)) fnExactModeInCard

/-- THE TIED CARD OF 'laws.FnMelodyBack'. -/
def fnMelodyBackCard : Claim7 := { stood := { row := fnMelodyBackRow, standIns := [], harness := (true, "8f69a472ab9f26a040c177c8d173b15125b493388ea5177262ccce7ac41612b2"), looks := false }, kinds := [], alts := [], laidByText := true, laidKinds := [.data], laidTests := true, laidLooks := .later }
def FnMelodyBackCardSaid : Prop := Claim7.holds Tryd.pinned (.plain (OpenSpec.ofChange fnMelodyBackSpec)) fnMelodyBackCard

/-- THE TIED CARD OF 'laws.FnExactMelodySemis'. -/
def fnExactMelodySemisCard : Claim7 := { stood := { row := fnExactMelodySemisRow, standIns := [], harness := (true, "8f69a472ab9f26a040c177c8d173b15125b493388ea5177262ccce7ac41612b2"), looks := false }, kinds := [], alts := [], laidByText := true, laidKinds := [.data], laidTests := true, laidLooks := .later }
def FnExactMelodySemisCardSaid : Prop := Claim7.holds Tryd.pinned (.plain (OpenSpec.ofChange fnExactMelodySemisSpec)) fnExactMelodySemisCard

/-- THE TIED CARD OF 'laws.FnExactMelodySame'. -/
def fnExactMelodySameCard : Claim7 := { stood := { row := fnExactMelodySameRow, standIns := [], harness := (true, "8f69a472ab9f26a040c177c8d173b15125b493388ea5177262ccce7ac41612b2"), looks := false }, kinds := [], alts := [], laidByText := true, laidKinds := [.data], laidTests := true, laidLooks := .later }
def FnExactMelodySameCardSaid : Prop := Claim7.holds Tryd.pinned (.plain (OpenSpec.ofChange fnExactMelodySameSpec)) fnExactMelodySameCard

/-- THE SECOND FORM's CARD OF 'laws.FnMelodySteps'. -/
def fnMelodyStepsUptoCard : Claim7 := { stood := { row := fnMelodyStepsUptoRow, standIns := [], harness := (true, "8f69a472ab9f26a040c177c8d173b15125b493388ea5177262ccce7ac41612b2"), looks := false }, kinds := [], alts := [], laidByText := true, laidKinds := [.data], laidTests := true, laidLooks := .later }
def FnMelodyStepsUptoCardSaid : Prop := Claim7.holds Tryd.pinned (.plain (OpenSpec.upto fnMelodyStepsSpec)) fnMelodyStepsUptoCard

/-- THE SECOND FORM's CARD OF 'laws.FnExactModeIn'. -/
def fnExactModeInUptoCard : Claim7 := { stood := { row := fnExactModeInUptoRow, standIns := [], harness := (true, "8f69a472ab9f26a040c177c8d173b15125b493388ea5177262ccce7ac41612b2"), looks := false }, kinds := [], alts := [], laidByText := true, laidKinds := [.data], laidTests := true, laidLooks := .later }
def FnExactModeInUptoCardSaid : Prop := Claim7.holds Tryd.pinned (.plain (OpenSpec.upto fnExactModeInSpec)) fnExactModeInUptoCard

/-- THE SECOND FORM's CARD OF 'laws.FnMelodyBack'. -/
def fnMelodyBackUptoCard : Claim7 := { stood := { row := fnMelodyBackUptoRow, standIns := [], harness := (true, "8f69a472ab9f26a040c177c8d173b15125b493388ea5177262ccce7ac41612b2"), looks := false }, kinds := [], alts := [], laidByText := true, laidKinds := [.data], laidTests := true, laidLooks := .later }
def FnMelodyBackUptoCardSaid : Prop := Claim7.holds Tryd.pinned (.plain (OpenSpec.upto fnMelodyBackSpec)) fnMelodyBackUptoCard

/-- THE SECOND FORM's CARD OF 'laws.FnExactMelodySemis'. -/
def fnExactMelodySemisUptoCard : Claim7 := { stood := { row := fnExactMelodySemisUptoRow, standIns := [], harness := (true, "8f69a472ab9f26a040c177c8d173b15125b493388ea5177262ccce7ac41612b2"), looks := false }, kinds := [], alts := [], laidByText := true, laidKinds := [.data], laidTests := true, laidLooks := .later }
def FnExactMelodySemisUptoCardSaid : Prop := Claim7.holds Tryd.pinned (.plain (OpenSpec.upto fnExactMelodySemisSpec)) fnExactMelodySemisUptoCard

/-- THE SECOND FORM's CARD OF 'laws.FnExactMelodySame'. -/
def fnExactMelodySameUptoCard : Claim7 := { stood := { row := fnExactMelodySameUptoRow, standIns := [], harness := (true, "8f69a472ab9f26a040c177c8d173b15125b493388ea5177262ccce7ac41612b2"), looks := false }, kinds := [], alts := [], laidByText := true, laidKinds := [.data], laidTests := true, laidLooks := .later }
def FnExactMelodySameUptoCardSaid : Prop := Claim7.holds Tryd.pinned (.plain (OpenSpec.upto fnExactMelodySameSpec)) fnExactMelodySameUptoCard
end Rows
end Go.Proofs.YtiddkhhcophbfaaDoor
