/-
  DERIVED. GIVEN WITH THE SEED: THE CARDS: each row of YtocpicgepgphoaaDoorRows.lean that lists a variable, with what it lists TIED to the program's text (the seventh form; the later family's looks); each row that meets fmt, with fmt's text TOLD by the authors' own Lean function (tested against real Go, not proved from fmt's source: count such statements apart). THE CARD IS WHAT COUNTS. Prove the row's statement (the work); the ties are given (YtocpicgepgphoaaDoorTie.lean); close each card by the builder's one call (the guide's Derived/Test/ToyasCard.lean, 'card_holds'). Laid BY PROGRAM, IN A SANDBOX (cutbox-door.mjs). By AI agents, Wed Nov 11 2026. No macro, syntax, notation, axiom, sorry.
-/
import Derived.Test.YtocpicgepgphoaaDoorRows
import GoSem.ClaimSeven
namespace Go.Proofs.YtocpicgepgphoaaDoor
namespace Rows

/-- THE TIED CARD OF 'laws.FnVerse'. -/
def fnVerseCard : Claim7 := { stood := { row := fnVerseRow, standIns := [], harness := (true, "434a422714bd452cb36ce75b0b46843860994a6ef9307cbad7b7c6e214148701"), looks := false }, kinds := [], alts := [], laidByText := true, laidKinds := [.data, .pinned], laidTests := true, laidLooks := .later }
def FnVerseCardSaid : Prop := Claim7.holds Tryd.pinned (.plain (OpenSpec.ofChange fnVerseSpec)) fnVerseCard

/-- THE TIED CARD OF 'laws.FnVerseGap'. -/
def fnVerseGapCard : Claim7 := { stood := { row := fnVerseGapRow, standIns := [], harness := (true, "434a422714bd452cb36ce75b0b46843860994a6ef9307cbad7b7c6e214148701"), looks := false }, kinds := [], alts := [], laidByText := true, laidKinds := [.data, .pinned], laidTests := true, laidLooks := .later }
def FnVerseGapCardSaid : Prop := Claim7.holds Tryd.pinned (.plain (OpenSpec.ofChange fnVerseGapSpec)) fnVerseGapCard

/-- THE TIED CARD OF 'laws.FnVerseAccents'. -/
def fnVerseAccentsCard : Claim7 := { stood := { row := fnVerseAccentsRow, standIns := [], harness := (true, "434a422714bd452cb36ce75b0b46843860994a6ef9307cbad7b7c6e214148701"), looks := false }, kinds := [], alts := [], laidByText := true, laidKinds := [.data, .pinned], laidTests := true, laidLooks := .later }
def FnVerseAccentsCardSaid : Prop := Claim7.holds Tryd.pinned (.plain (OpenSpec.ofChange fnVerseAccentsSpec)) fnVerseAccentsCard

/-- THE TIED CARD OF 'laws.FnExactVerseValid'. -/
def fnExactVerseValidCard : Claim7 := { stood := { row := fnExactVerseValidRow, standIns := [], harness := (true, "434a422714bd452cb36ce75b0b46843860994a6ef9307cbad7b7c6e214148701"), looks := false }, kinds := [], alts := [], laidByText := true, laidKinds := [.data, .pinned], laidTests := true, laidLooks := .later }
def FnExactVerseValidCardSaid : Prop := Claim7.holds Tryd.pinned (.plain (OpenSpec.ofChange fnExactVerseValidSpec)) fnExactVerseValidCard

/-- THE TIED CARD OF 'laws.FnExactVerseHalves'. -/
def fnExactVerseHalvesCard : Claim7 := { stood := { row := fnExactVerseHalvesRow, standIns := [], harness := (true, "434a422714bd452cb36ce75b0b46843860994a6ef9307cbad7b7c6e214148701"), looks := false }, kinds := [], alts := [], laidByText := true, laidKinds := [.data, .pinned], laidTests := true, laidLooks := .later }
def FnExactVerseHalvesCardSaid : Prop := Claim7.holds Tryd.pinned (.plain (OpenSpec.ofChange fnExactVerseHalvesSpec)) fnExactVerseHalvesCard

/-- THE TIED CARD OF 'laws.FnExactVerseSyllables'. -/
def fnExactVerseSyllablesCard : Claim7 := { stood := { row := fnExactVerseSyllablesRow, standIns := [], harness := (true, "434a422714bd452cb36ce75b0b46843860994a6ef9307cbad7b7c6e214148701"), looks := false }, kinds := [], alts := [], laidByText := true, laidKinds := [.data, .pinned], laidTests := true, laidLooks := .later }
def FnExactVerseSyllablesCardSaid : Prop := Claim7.holds Tryd.pinned (.plain (OpenSpec.ofChange fnExactVerseSyllablesSpec)) fnExactVerseSyllablesCard

/-- THE TIED CARD OF 'laws.FnExactVerseGap'. -/
def fnExactVerseGapCard : Claim7 := { stood := { row := fnExactVerseGapRow, standIns := [], harness := (true, "434a422714bd452cb36ce75b0b46843860994a6ef9307cbad7b7c6e214148701"), looks := false }, kinds := [], alts := [], laidByText := true, laidKinds := [.data, .pinned], laidTests := true, laidLooks := .later }
def FnExactVerseGapCardSaid : Prop := Claim7.holds Tryd.pinned (.plain (OpenSpec.ofChange fnExactVerseGapSpec)) fnExactVerseGapCard

/-- THE TIED CARD OF 'laws.FnExactVerseEnds'. -/
def fnExactVerseEndsCard : Claim7 := { stood := { row := fnExactVerseEndsRow, standIns := [], harness := (true, "434a422714bd452cb36ce75b0b46843860994a6ef9307cbad7b7c6e214148701"), looks := false }, kinds := [], alts := [], laidByText := true, laidKinds := [.data, .pinned], laidTests := true, laidLooks := .later }
def FnExactVerseEndsCardSaid : Prop := Claim7.holds Tryd.pinned (.plain (OpenSpec.ofChange fnExactVerseEndsSpec)) fnExactVerseEndsCard

/-- THE TIED CARD OF 'laws.FnExactVerseAccents'. -/
def fnExactVerseAccentsCard : Claim7 := { stood := { row := fnExactVerseAccentsRow, standIns := [], harness := (true, "434a422714bd452cb36ce75b0b46843860994a6ef9307cbad7b7c6e214148701"), looks := false }, kinds := [], alts := [], laidByText := true, laidKinds := [.data, .pinned], laidTests := true, laidLooks := .later }
def FnExactVerseAccentsCardSaid : Prop := Claim7.holds Tryd.pinned (.plain (OpenSpec.ofChange fnExactVerseAccentsSpec)) fnExactVerseAccentsCard

/-- THE SECOND FORM's CARD OF 'laws.FnVerse'. -/
def fnVerseUptoCard : Claim7 := { stood := { row := fnVerseUptoRow, standIns := [], harness := (true, "434a422714bd452cb36ce75b0b46843860994a6ef9307cbad7b7c6e214148701"), looks := false }, kinds := [], alts := [], laidByText := true, laidKinds := [.data, .pinned], laidTests := true, laidLooks := .later }
def FnVerseUptoCardSaid : Prop := Claim7.holds Tryd.pinned (.plain (OpenSpec.upto fnVerseSpec)) fnVerseUptoCard

/-- THE SECOND FORM's CARD OF 'laws.FnVerseGap'. -/
def fnVerseGapUptoCard : Claim7 := { stood := { row := fnVerseGapUptoRow, standIns := [], harness := (true, "434a422714bd452cb36ce75b0b46843860994a6ef9307cbad7b7c6e214148701"), looks := false }, kinds := [], alts := [], laidByText := true, laidKinds := [.data, .pinned], laidTests := true, laidLooks := .later }
def FnVerseGapUptoCardSaid : Prop := Claim7.holds Tryd.pinned (.plain (OpenSpec.upto fnVerseGapSpec)) fnVerseGapUptoCard

/-- THE SECOND FORM's CARD OF 'laws.FnVerseAccents'. -/
def fnVerseAccentsUptoCard : Claim7 := { stood := { row := fnVerseAccentsUptoRow, standIns := [], harness := (true, "434a422714bd452cb36ce75b0b46843860994a6ef9307cbad7b7c6e214148701"), looks := false }, kinds := [], alts := [], laidByText := true, laidKinds := [.data, .pinned], laidTests := true, laidLooks := .later }
def FnVerseAccentsUptoCardSaid : Prop := Claim7.holds Tryd.pinned (.plain (OpenSpec.upto fnVerseAccentsSpec)) fnVerseAccentsUptoCard

/-- THE SECOND FORM's CARD OF 'laws.FnExactVerseValid'. -/
def fnExactVerseValidUptoCard : Claim7 := { stood := { row := fnExactVerseValidUptoRow, standIns := [], harness := (true, "434a422714bd452cb36ce75b0b46843860994a6ef9307cbad7b7c6e214148701"), looks := false }, kinds := [], alts := [], laidByText := true, laidKinds := [.data, .pinned], laidTests := true, laidLooks := .later }
def FnExactVerseValidUptoCardSaid : Prop := Claim7.holds Tryd.pinned (.plain (OpenSpec.upto fnExactVerseValidSpec)) fnExactVerseValidUptoCard

/-- THE SECOND FORM's CARD OF 'laws.FnExactVerseHalves'. -/
def fnExactVerseHalvesUptoCard : Claim7 := { stood := { row := fnExactVerseHalvesUptoRow, standIns := [], harness := (true, "434a422714bd452cb36ce75b0b46843860994a6ef9307cbad7b7c6e214148701"), looks := false }, kinds := [], alts := [], laidByText := true, laidKinds := [.data, .pinned], laidTests := true, laidLooks := .later }
def FnExactVerseHalvesUptoCardSaid : Prop := Claim7.holds Tryd.pinned (.plain (OpenSpec.upto fnExactVerseHalvesSpec)) fnExactVerseHalvesUptoCard

/-- THE SECOND FORM's CARD OF 'laws.FnExactVerseSyllables'. -/
def fnExactVerseSyllablesUptoCard : Claim7 := { stood := { row := fnExactVerseSyllablesUptoRow, standIns := [], harness := (true, "434a422714bd452cb36ce75b0b46843860994a6ef9307cbad7b7c6e214148701"), looks := false }, kinds := [], alts := [], laidByText := true, laidKinds := [.data, .pinned], laidTests := true, laidLooks := .later }
def FnExactVerseSyllablesUptoCardSaid : Prop := Claim7.holds Tryd.pinned (.plain (OpenSpec.upto fnExactVerseSyllablesSpec)) fnExactVerseSyllablesUptoCard

/-- THE SECOND FORM's CARD OF 'laws.FnExactVerseGap'. -/
def fnExactVerseGapUptoCard : Claim7 := { stood := { row := fnExactVerseGapUptoRow, standIns := [], harness := (true, "434a422714bd452cb36ce75b0b46843860994a6ef9307cbad7b7c6e214148701"), looks := false }, kinds := [], alts := [], laidByText := true, laidKinds := [.data, .pinned], laidTests := true, laidLooks := .later }
def FnExactVerseGapUptoCardSaid : Prop := Claim7.holds Tryd.pinned (.plain (OpenSpec.upto fnExactVerseGapSpec)) fnExactVerseGapUptoCard

/-- THE SECOND FORM's CARD OF 'laws.FnExactVerseEnds'. -/
def fnExactVerseEndsUptoCard : Claim7 := { stood := { row := fnExactVerseEndsUptoRow, standIns := [], harness := (true, "434a422714bd452cb36ce75b0b46843860994a6ef9307cbad7b7c6e214148701"), looks := false }, kinds := [], alts := [], laidByText := true, laidKinds := [.data, .pinned], laidTests := true, laidLooks := .later }
def FnExactVerseEndsUptoCardSaid : Prop := Claim7.holds Tryd.pinned (.plain (OpenSpec.upto fnExactVerseEndsSpec)) fnExactVerseEndsUptoCard

/-- THE SECOND FORM's CARD OF 'laws.FnExactVerseAccents'. -/
def fnExactVerseAccentsUptoCard : Claim7 := { stood := { row := fnExactVerseAccentsUptoRow, standIns := [], harness := (true, "434a422714bd452cb36ce75b0b46843860994a6ef9307cbad7b7c6e214148701"), looks := false }, kinds := [], alts := [], laidByText := true, laidKinds := [.data, .pinned], laidTests := true, laidLooks := .later }
def FnExactVerseAccentsUptoCardSaid : Prop := Claim7.holds Tryd.pinned (.plain (OpenSpec.upto fnExactVerseAccentsSpec)) fnExactVerseAccentsUptoCard
end Rows
end Go.Proofs.YtocpicgepgphoaaDoor
