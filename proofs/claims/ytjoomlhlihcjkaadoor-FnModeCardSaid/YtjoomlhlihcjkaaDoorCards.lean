/-
  DERIVED. GIVEN WITH THE SEED: THE CARDS: each row of YtjoomlhlihcjkaaDoorRows.lean that lists a variable, with what it lists TIED to the program's text (the seventh form; the later family's looks); each row that meets fmt, with fmt's text TOLD by the authors' own Lean function (tested against real Go, not proved from fmt's source: count such statements apart). THE CARD IS WHAT COUNTS. Prove the row's statement (the work); the ties are given (YtjoomlhlihcjkaaDoorTie.lean); close each card by the builder's one call (the guide's Derived/Test/ToyasCard.lean, 'card_holds'). Laid BY PROGRAM, IN A SANDBOX (cutbox-door.mjs). By AI agents, Wed Nov 11 2026. No macro, syntax, notation, axiom, sorry.
-/
import Derived.Test.YtjoomlhlihcjkaaDoorRows
import GoSem.ClaimSeven
namespace Go.Proofs.YtjoomlhlihcjkaaDoor
namespace Rows

/-- THE TIED CARD OF 'laws.FnExactModeFinal'. -/
def fnExactModeFinalCard : Claim7 := { stood := { row := fnExactModeFinalRow, standIns := [], harness := (true, "c1b082286a18f6fd96d0f46bb63d81f53a08f7fc7db4b214a4dd22da8ad1f6e0"), looks := false }, kinds := [], alts := [], laidByText := true, laidKinds := [.data], laidTests := true, laidLooks := .later }
def FnExactModeFinalCardSaid : Prop := Claim7.holds Tryd.pinned (.plain (OpenSpec.ofChange fnExactModeFinalSpec)) fnExactModeFinalCard

/-- THE TIED CARD OF 'laws.FnExactModeTenor'. -/
def fnExactModeTenorCard : Claim7 := { stood := { row := fnExactModeTenorRow, standIns := [], harness := (true, "c1b082286a18f6fd96d0f46bb63d81f53a08f7fc7db4b214a4dd22da8ad1f6e0"), looks := false }, kinds := [], alts := [], laidByText := true, laidKinds := [.data], laidTests := true, laidLooks := .later }
def FnExactModeTenorCardSaid : Prop := Claim7.holds Tryd.pinned (.plain (OpenSpec.ofChange fnExactModeTenorSpec)) fnExactModeTenorCard

/-- THE TIED CARD OF 'laws.FnExactModePair'. -/
def fnExactModePairCard : Claim7 := { stood := { row := fnExactModePairRow, standIns := [], harness := (true, "c1b082286a18f6fd96d0f46bb63d81f53a08f7fc7db4b214a4dd22da8ad1f6e0"), looks := false }, kinds := [], alts := [], laidByText := true, laidKinds := [.data], laidTests := true, laidLooks := .later }
def FnExactModePairCardSaid : Prop := Claim7.holds Tryd.pinned (.plain (OpenSpec.ofChange fnExactModePairSpec)) fnExactModePairCard

/-- THE TIED CARD OF 'laws.FnExactModeRange'. -/
def fnExactModeRangeCard : Claim7 := { stood := { row := fnExactModeRangeRow, standIns := [], harness := (true, "c1b082286a18f6fd96d0f46bb63d81f53a08f7fc7db4b214a4dd22da8ad1f6e0"), looks := false }, kinds := [], alts := [], laidByText := true, laidKinds := [.data], laidTests := true, laidLooks := .later }
def FnExactModeRangeCardSaid : Prop := Claim7.holds Tryd.pinned (.plain (OpenSpec.ofChange fnExactModeRangeSpec)) fnExactModeRangeCard

/-- THE TIED CARD OF 'laws.FnExactToneHeight'. -/
def fnExactToneHeightCard : Claim7 := { stood := { row := fnExactToneHeightRow, standIns := [], harness := (true, "c1b082286a18f6fd96d0f46bb63d81f53a08f7fc7db4b214a4dd22da8ad1f6e0"), looks := false }, kinds := [], alts := [], laidByText := true, laidKinds := [.data], laidTests := true, laidLooks := .later }
def FnExactToneHeightCardSaid : Prop := Claim7.holds Tryd.pinned (.plain (OpenSpec.ofChange fnExactToneHeightSpec)) fnExactToneHeightCard

/-- THE TIED CARD OF 'laws.FnExactToneSemis'. -/
def fnExactToneSemisCard : Claim7 := { stood := { row := fnExactToneSemisRow, standIns := [], harness := (true, "c1b082286a18f6fd96d0f46bb63d81f53a08f7fc7db4b214a4dd22da8ad1f6e0"), looks := false }, kinds := [], alts := [], laidByText := true, laidKinds := [.data], laidTests := true, laidLooks := .later }
def FnExactToneSemisCardSaid : Prop := Claim7.holds Tryd.pinned (.plain (OpenSpec.ofChange fnExactToneSemisSpec)) fnExactToneSemisCard

/-- THE TIED CARD OF 'laws.FnHeight'. -/
def fnHeightCard : Claim7 := { stood := { row := fnHeightRow, standIns := [], harness := (true, "c1b082286a18f6fd96d0f46bb63d81f53a08f7fc7db4b214a4dd22da8ad1f6e0"), looks := false }, kinds := [], alts := [], laidByText := true, laidKinds := [.data], laidTests := true, laidLooks := .later }
def FnHeightCardSaid : Prop := Claim7.holds Tryd.pinned (.plain (OpenSpec.ofChange fnHeightSpec)) fnHeightCard

/-- THE TIED CARD OF 'laws.FnMode'. -/
def fnModeCard : Claim7 := { stood := { row := fnModeRow, standIns := [], harness := (true, "c1b082286a18f6fd96d0f46bb63d81f53a08f7fc7db4b214a4dd22da8ad1f6e0"), looks := false }, kinds := [], alts := [], laidByText := true, laidKinds := [.data], laidTests := true, laidLooks := .later }
def FnModeCardSaid : Prop := Claim7.holds Tryd.pinned (.plain (OpenSpec.ofChange fnModeSpec)) fnModeCard

/-- THE SECOND FORM's CARD OF 'laws.FnExactModeFinal'. -/
def fnExactModeFinalUptoCard : Claim7 := { stood := { row := fnExactModeFinalUptoRow, standIns := [], harness := (true, "c1b082286a18f6fd96d0f46bb63d81f53a08f7fc7db4b214a4dd22da8ad1f6e0"), looks := false }, kinds := [], alts := [], laidByText := true, laidKinds := [.data], laidTests := true, laidLooks := .later }
def FnExactModeFinalUptoCardSaid : Prop := Claim7.holds Tryd.pinned (.plain (OpenSpec.upto fnExactModeFinalSpec)) fnExactModeFinalUptoCard

/-- THE SECOND FORM's CARD OF 'laws.FnExactModeTenor'. -/
def fnExactModeTenorUptoCard : Claim7 := { stood := { row := fnExactModeTenorUptoRow, standIns := [], harness := (true, "c1b082286a18f6fd96d0f46bb63d81f53a08f7fc7db4b214a4dd22da8ad1f6e0"), looks := false }, kinds := [], alts := [], laidByText := true, laidKinds := [.data], laidTests := true, laidLooks := .later }
def FnExactModeTenorUptoCardSaid : Prop := Claim7.holds Tryd.pinned (.plain (OpenSpec.upto fnExactModeTenorSpec)) fnExactModeTenorUptoCard

/-- THE SECOND FORM's CARD OF 'laws.FnExactModePair'. -/
def fnExactModePairUptoCard : Claim7 := { stood := { row := fnExactModePairUptoRow, standIns := [], harness := (true, "c1b082286a18f6fd96d0f46bb63d81f53a08f7fc7db4b214a4dd22da8ad1f6e0"), looks := false }, kinds := [], alts := [], laidByText := true, laidKinds := [.data], laidTests := true, laidLooks := .later }
def FnExactModePairUptoCardSaid : Prop := Claim7.holds Tryd.pinned (.plain (OpenSpec.upto fnExactModePairSpec)) fnExactModePairUptoCard

/-- THE SECOND FORM's CARD OF 'laws.FnExactModeRange'. -/
def fnExactModeRangeUptoCard : Claim7 := { stood := { row := fnExactModeRangeUptoRow, standIns := [], harness := (true, "c1b082286a18f6fd96d0f46bb63d81f53a08f7fc7db4b214a4dd22da8ad1f6e0"), looks := false }, kinds := [], alts := [], laidByText := true, laidKinds := [.data], laidTests := true, laidLooks := .later }
def FnExactModeRangeUptoCardSaid : Prop := Claim7.holds Tryd.pinned (.plain (OpenSpec.upto fnExactModeRangeSpec)) fnExactModeRangeUptoCard

/-- THE SECOND FORM's CARD OF 'laws.FnExactToneHeight'. -/
def fnExactToneHeightUptoCard : Claim7 := { stood := { row := fnExactToneHeightUptoRow, standIns := [], harness := (true, "c1b082286a18f6fd96d0f46bb63d81f53a08f7fc7db4b214a4dd22da8ad1f6e0"), looks := false }, kinds := [], alts := [], laidByText := true, laidKinds := [.data], laidTests := true, laidLooks := .later }
def FnExactToneHeightUptoCardSaid : Prop := Claim7.holds Tryd.pinned (.plain (OpenSpec.upto fnExactToneHeightSpec)) fnExactToneHeightUptoCard

/-- THE SECOND FORM's CARD OF 'laws.FnExactToneSemis'. -/
def fnExactToneSemisUptoCard : Claim7 := { stood := { row := fnExactToneSemisUptoRow, standIns := [], harness := (true, "c1b082286a18f6fd96d0f46bb63d81f53a08f7fc7db4b214a4dd22da8ad1f6e0"), looks := false }, kinds := [], alts := [], laidByText := true, laidKinds := [.data], laidTests := true, laidLooks := .later }
def FnExactToneSemisUptoCardSaid : Prop := Claim7.holds Tryd.pinned (.plain (OpenSpec.upto fnExactToneSemisSpec)) fnExactToneSemisUptoCard

/-- THE SECOND FORM's CARD OF 'laws.FnHeight'. -/
def fnHeightUptoCard : Claim7 := { stood := { row := fnHeightUptoRow, standIns := [], harness := (true, "c1b082286a18f6fd96d0f46bb63d81f53a08f7fc7db4b214a4dd22da8ad1f6e0"), looks := false }, kinds := [], alts := [], laidByText := true, laidKinds := [.data], laidTests := true, laidLooks := .later }
def FnHeightUptoCardSaid : Prop := Claim7.holds Tryd.pinned (.plain (OpenSpec.upto fnHeightSpec)) fnHeightUptoCard

/-- THE SECOND FORM's CARD OF 'laws.FnMode'. -/
def fnModeUptoCard : Claim7 := { stood := { row := fnModeUptoRow, standIns := [], harness := (true, "c1b082286a18f6fd96d0f46bb63d81f53a08f7fc7db4b214a4dd22da8ad1f6e0"), looks := false }, kinds := [], alts := [], laidByText := true, laidKinds := [.data], laidTests := true, laidLooks := .later }
def FnModeUptoCardSaid : Prop := Claim7.holds Tryd.pinned (.plain (OpenSpec.upto fnModeSpec)) fnModeUptoCard
end Rows
end Go.Proofs.YtjoomlhlihcjkaaDoor
