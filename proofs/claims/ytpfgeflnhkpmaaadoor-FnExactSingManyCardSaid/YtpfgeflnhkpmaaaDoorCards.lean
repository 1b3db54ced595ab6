/-
  DERIVED. GIVEN WITH THE SEED: THE CARDS: each row of YtpfgeflnhkpmaaaDoorRows.lean that lists a variable, with what it lists TIED to the program's text (the seventh form; the later family's looks); each row that meets fmt, with fmt's text TOLD by the authors' own Lean function (tested against real Go, not proved from fmt's source: count such statements apart). THE CARD IS WHAT COUNTS. Prove the row's statement (the work); the ties are given (YtpfgeflnhkpmaaaDoorTie.lean); close each card by the builder's one call (the guide's Derived/Test/ToyasCard.lean, 'card_holds'). Laid BY PROGRAM, IN A SANDBOX (cutbox-door.mjs). By AI agents, Wed Nov 11 2026. No macro, syntax, notation, axiom, sorry.
-/
import Derived.Test.YtpfgeflnhkpmaaaDoorRows
import GoSem.ClaimSeven
namespace Go.Proofs.YtpfgeflnhkpmaaaDoor
namespace Rows

/-- THE TIED CARD OF 'laws.FnExactToneNames'. -/
def fnExactToneNamesCard : Claim7 := { stood := { row := fnExactToneNamesRow, standIns := [], harness := (true, "393f445d0e56c90a28464597c9031d373689273a584b55031c12469935db6227"), looks := false }, kinds := [], alts := [], laidByText := true, laidKinds := [.data, .data], laidTests := true, laidLooks := .later }
def FnExactToneNamesCardSaid : Prop := Claim7.holds Tryd.pinned (.plain (OpenSpec.ofChange fnExactToneNamesSpec)) fnExactToneNamesCard

/-- THE TIED CARD OF 'laws.FnExactHexAll'. -/
def fnExactHexAllCard : Claim7 := { stood := { row := fnExactHexAllRow, standIns := [], harness := (true, "393f445d0e56c90a28464597c9031d373689273a584b55031c12469935db6227"), looks := false }, kinds := [], alts := [], laidByText := true, laidKinds := [.data], laidTests := true, laidLooks := .later }
def FnExactHexAllCardSaid : Prop := Claim7.holds Tryd.pinned (.plain (OpenSpec.ofChange fnExactHexAllSpec)) fnExactHexAllCard

/-- THE TIED CARD OF 'laws.FnExactSingMany'. -/
def fnExactSingManyCard : Claim7 := { stood := { row := fnExactSingManyRow, standIns := [], harness := (true, "393f445d0e56c90a28464597c9031d373689273a584b55031c12469935db6227"), looks := false }, kinds := [], alts := [], laidByText := true, laidKinds := [.data], laidTests := true, laidLooks := .later }
def FnExactSingManyCardSaid : Prop := Claim7.holds Tryd.pinned (.plain (OpenSpec.ofChange fnExactSingManySpec)) fnExactSingManyCard

/-- THE SECOND FORM's CARD OF 'laws.FnExactToneNames'. -/
def fnExactToneNamesUptoCard : Claim7 := { stood := { row := fnExactToneNamesUptoRow, standIns := [], harness := (true, "393f445d0e56c90a28464597c9031d373689273a584b55031c12469935db6227"), looks := false }, kinds := [], alts := [], laidByText := true, laidKinds := [.data, .data], laidTests := true, laidLooks := .later }
def FnExactToneNamesUptoCardSaid : Prop := Claim7.holds Tryd.pinned (.plain (OpenSpec.upto fnExactToneNamesSpec)) fnExactToneNamesUptoCard

/-- THE SECOND FORM's CARD OF 'laws.FnExactHexAll'. -/
def fnExactHexAllUptoCard : Claim7 := { stood := { row := fnExactHexAllUptoRow, standIns := [], harness := (true, "393f445d0e56c90a28464597c9031d373689273a584b55031c12469935db6227"), looks := false }, kinds := [], alts := [], laidByText := true, laidKinds := [.data], laidTests := true, laidLooks := .later }
def FnExactHexAllUptoCardSaid : Prop := Claim7.holds Tryd.pinned (.plain (OpenSpec.upto fnExactHexAllSpec)) fnExactHexAllUptoCard

/-- THE SECOND FORM's CARD OF 'laws.FnExactSingMany'. -/
def fnExactSingManyUptoCard : Claim7 := { stood := { row := fnExactSingManyUptoRow, standIns := [], harness := (true, "393f445d0e56c90a28464597c9031d373689273a584b55031c12469935db6227"), looks := false }, kinds := [], alts := [], laidByText := true, laidKinds := [.data], laidTests := true, laidLooks := .later }
def FnExactSingManyUptoCardSaid : Prop := Claim7.holds Tryd.pinned (.plain (OpenSpec.upto fnExactSingManySpec)) fnExactSingManyUptoCard
end Rows
end Go.Proofs.YtpfgeflnhkpmaaaDoor
