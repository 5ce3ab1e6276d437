/-
  DERIVED. GIVEN WITH THE SEED: THE CARDS: each row of YtddkmhkglmcihaaDoorRows.lean that lists a variable, with what it lists TIED to the program's text (the seventh form; the later family's looks); each row that meets fmt, with fmt's text TOLD by the authors' own Lean function (tested against real Go, not proved from fmt's source: count such statements apart). THE CARD IS WHAT COUNTS. Prove the row's statement (the work); the ties are given (YtddkmhkglmcihaaDoorTie.lean); close each card by the builder's one call (the guide's Derived/Test/ToyasCard.lean, 'card_holds'). Laid BY PROGRAM, IN A SANDBOX (cutbox-door.mjs). By AI agents, Wed Nov 11 2026. No macro, syntax, notation, axiom, sorry.
-/
import Derived.Test.YtddkmhkglmcihaaDoorRows
import GoSem.ClaimSeven
namespace Go.Proofs.YtddkmhkglmcihaaDoor
namespace Rows

/-- THE TIED CARD OF 'dactyllaw22.EscTexts'. -/
def escTextsCard : Claim7 := { stood := { row := escTextsRow, standIns := [], harness := (true, "e72897896e682c815f60296c06e8bcfdc45ced527aa5f129f76b1f70f9a93c4b"), looks := false }, kinds := [], alts := [], laidByText := true, laidKinds := [.data, .pinned], laidTests := true, laidLooks := .later }
def EscTextsCardSaid : Prop := Claim7.holds Tryd.pinned (.plain (OpenSpec.ofChange escTextsSpec)) escTextsCard

/-- THE TIED CARD OF 'dactyllaw22.EscPlain'. -/
def escPlainCard : Claim7 := { stood := { row := escPlainRow, standIns := [], harness := (true, "e72897896e682c815f60296c06e8bcfdc45ced527aa5f129f76b1f70f9a93c4b"), looks := false }, kinds := [], alts := [], laidByText := true, laidKinds := [.data, .pinned], laidTests := true, laidLooks := .later }
def EscPlainCardSaid : Prop := Claim7.holds Tryd.pinned (.plain (OpenSpec.ofChange escPlainSpec)) escPlainCard

/-- THE SECOND FORM's CARD OF 'dactyllaw22.EscTexts'. -/
def escTextsUptoCard : Claim7 := { stood := { row := escTextsUptoRow, standIns := [], harness := (true, "e72897896e682c815f60296c06e8bcfdc45ced527aa5f129f76b1f70f9a93c4b"), looks := false }, kinds := [], alts := [], laidByText := true, laidKinds := [.data, .pinned], laidTests := true, laidLooks := .later }
def EscTextsUptoCardSaid : Prop := Claim7.holds Tryd.pinned (.plain (OpenSpec.upto escTextsSpec)) escTextsUptoCard

/-- THE SECOND FORM's CARD OF 'dactyllaw22.EscPlain'. -/
def escPlainUptoCard : Claim7 := { stood := { row := escPlainUptoRow, standIns := [], harness := (true, "e72897896e682c815f60296c06e8bcfdc45ced527aa5f129f76b1f70f9a93c4b"), looks := false }, kinds := [], alts := [], laidByText := true, laidKinds := [.data, .pinned], laidTests := true, laidLooks := .later }
def EscPlainUptoCardSaid : Prop := Claim7.holds Tryd.pinned (.plain (OpenSpec.upto escPlainSpec)) escPlainUptoCard
end Rows
end Go.Proofs.YtddkmhkglmcihaaDoor
