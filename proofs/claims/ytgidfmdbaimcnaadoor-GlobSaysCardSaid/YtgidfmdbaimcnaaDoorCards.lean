/-
  DERIVED. GIVEN WITH THE SEED: THE CARDS: each row of YtgidfmdbaimcnaaDoorRows.lean that lists a variable, with what it lists TIED to the program's text (the seventh form; the later family's looks); each row that meets fmt, with fmt's text TOLD by the authors' own Lean function (tested against real Go, not proved from fmt's source: count such statements apart). THE CARD IS WHAT COUNTS. Prove the row's statement (the work); the ties are given (YtgidfmdbaimcnaaDoorTie.lean); close each card by the builder's one call (the guide's Derived/Test/ToyasCard.lean, 'card_holds'). Laid BY PROGRAM, IN A SANDBOX (cutbox-door.mjs). By AI agents, Wed Nov 11 2026. No macro, syntax, notation, axiom, sorry.
-/
import Derived.Test.YtgidfmdbaimcnaaDoorRows
import GoSem.ClaimSeven
namespace Go.Proofs.YtgidfmdbaimcnaaDoor
namespace Rows

/-- THE TIED CARD OF 'linenlaw.GlobSays'. -/
def globSaysCard : Claim7 := { stood := { row := globSaysRow, standIns := [], harness := (true, "99206b518bcf3f9a5da52b82d27d950e270054a6c5805c2c5dee5aec7dbad40e"), looks := false }, kinds := [], alts := [], laidByText := true, laidKinds := [.data, .pinned], laidTests := true, laidLooks := .later }
def GlobSaysCardSaid : Prop := Claim7.holds Tryd.pinned (.plain (OpenSpec.ofChange globSaysSpec)) globSaysCard

/-- THE SECOND FORM's CARD OF 'linenlaw.GlobSays'. -/
def globSaysUptoCard : Claim7 := { stood := { row := globSaysUptoRow, standIns := [], harness := (true, "99206b518bcf3f9a5da52b82d27d950e270054a6c5805c2c5dee5aec7dbad40e"), looks := false }, kinds := [], alts := [], laidByText := true, laidKinds := [.data, .pinned], laidTests := true, laidLooks := .later }
def GlobSaysUptoCardSaid : Prop := Claim7.holds Tryd.pinned (.plain (OpenSpec.upto globSaysSpec)) globSaysUptoCard
end Rows
end Go.Proofs.YtgidfmdbaimcnaaDoor
