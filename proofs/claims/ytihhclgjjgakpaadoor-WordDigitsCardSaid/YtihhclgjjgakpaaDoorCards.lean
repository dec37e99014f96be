/-
  DERIVED. GIVEN WITH THE SEED: THE CARDS: each row of YtihhclgjjgakpaaDoorRows.lean that lists a variable, with what it lists TIED to the program's text (the seventh form; the later family's looks); each row that meets fmt, with fmt's text TOLD by the authors' own Lean function (tested against real Go, not proved from fmt's source: count such statements apart). THE CARD IS WHAT COUNTS. Prove the row's statement (the work); the ties are given (YtihhclgjjgakpaaDoorTie.lean); close each card by the builder's one call (the guide's Derived/Test/ToyasCard.lean, 'card_holds'). Laid BY PROGRAM, IN A SANDBOX (cutbox-door.mjs). By AI agents, Wed Nov 11 2026. No macro, syntax, notation, axiom, sorry.
-/
import Derived.Test.YtihhclgjjgakpaaDoorRows
import GoSem.ClaimSeven
namespace Go.Proofs.YtihhclgjjgakpaaDoor
namespace Rows

/-- THE TIED CARD OF 'vagabondlaw01.WordSizes'. -/
def wordSizesCard : Claim7 := { stood := { row := wordSizesRow, standIns := [], harness := (true, "844006ae421ba031684fd7070cf8b534f1d4ae0aed8867b3e09e4d1eba3f3973"), looks := true }, kinds := [], alts := [], laidByText := true, laidKinds := [.data, .data, .data], laidTests := true, laidLooks := .later }
def WordSizesCardSaid : Prop := Claim7.holds Tryd.pinned (.plain (OpenSpec.ofChange wordSizesSpec)) wordSizesCard

/-- THE TIED CARD OF 'vagabondlaw01.WordDigits'. -/
def wordDigitsCard : Claim7 := { stood := { row := wordDigitsRow, standIns := [], harness := (true, "844006ae421ba031684fd7070cf8b534f1d4ae0aed8867b3e09e4d1eba3f3973"), looks := true }, kinds := [], alts := [], laidByText := true, laidKinds := [.data, .data, .data, .sentinel, .sentinel], laidTests := true, laidLooks := .later }
def WordDigitsCardSaid : Prop := Claim7.holds Tryd.pinned (.plain (OpenSpec.ofChange wordDigitsSpec)) wordDigitsCard

/-- THE SECOND FORM's CARD OF 'vagabondlaw01.WordSizes'. -/
def wordSizesUptoCard : Claim7 := { stood := { row := wordSizesUptoRow, standIns := [], harness := (true, "844006ae421ba031684fd7070cf8b534f1d4ae0aed8867b3e09e4d1eba3f3973"), looks := true }, kinds := [], alts := [], laidByText := true, laidKinds := [.data, .data, .data], laidTests := true, laidLooks := .later }
def WordSizesUptoCardSaid : Prop := Claim7.holds Tryd.pinned (.plain (OpenSpec.upto wordSizesSpec)) wordSizesUptoCard

/-- THE SECOND FORM's CARD OF 'vagabondlaw01.WordDigits'. -/
def wordDigitsUptoCard : Claim7 := { stood := { row := wordDigitsUptoRow, standIns := [], harness := (true, "844006ae421ba031684fd7070cf8b534f1d4ae0aed8867b3e09e4d1eba3f3973"), looks := true }, kinds := [], alts := [], laidByText := true, laidKinds := [.data, .data, .data, .sentinel, .sentinel], laidTests := true, laidLooks := .later }
def WordDigitsUptoCardSaid : Prop := Claim7.holds Tryd.pinned (.plain (OpenSpec.upto wordDigitsSpec)) wordDigitsUptoCard
end Rows
end Go.Proofs.YtihhclgjjgakpaaDoor
