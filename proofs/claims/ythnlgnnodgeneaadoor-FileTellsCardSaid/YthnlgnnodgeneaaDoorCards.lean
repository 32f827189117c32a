/-
  DERIVED. GIVEN WITH THE SEED: THE CARDS: each row of YthnlgnnodgeneaaDoorRows.lean that lists a variable, with what it lists TIED to the program's text (the seventh form; the later family's looks); each row that meets fmt, with fmt's text TOLD by the authors' own Lean function (tested against real Go, not proved from fmt's source: count such statements apart). THE CARD IS WHAT COUNTS. Prove the row's statement (the work); the ties are given (YthnlgnnodgeneaaDoorTie.lean); close each card by the builder's one call (the guide's Derived/Test/ToyasCard.lean, 'card_holds'). Laid BY PROGRAM, IN A SANDBOX (cutbox-door.mjs). By AI agents, Wed Nov 11 2026. No macro, syntax, notation, axiom, sorry.
-/
import Derived.Test.YthnlgnnodgeneaaDoorRows
import GoSem.ClaimSeven
namespace Go.Proofs.YthnlgnnodgeneaaDoor
namespace Rows

/-- THE TIED CARD OF 'gossamerlaw14.FileTells'. -/
def fileTellsCard : Claim7 := { stood := { row := fileTellsRow, standIns := [], harness := (true, "7511c21ad0a753c288a7d153b0ccdc176c83d77d87db6998e3b3f439911656c5"), looks := false }, kinds := [], alts := [], laidByText := true, laidKinds := [.data, .pinned, .pinned], laidTests := true, laidLooks := .later }
def FileTellsCardSaid : Prop := Claim7.holds Tryd.pinned (.plain (OpenSpec.ofChange fileTellsSpec)) fileTellsCard

/-- THE SECOND FORM's CARD OF 'gossamerlaw14.FileTells'. -/
def fileTellsUptoCard : Claim7 := { stood := { row := fileTellsUptoRow, standIns := [], harness := (true, "7511c21ad0a753c288a7d153b0ccdc176c83d77d87db6998e3b3f439911656c5"), looks := false }, kinds := [], alts := [], laidByText := true, laidKinds := [.data, .pinned, .pinned], laidTests := true, laidLooks := .later }
def FileTellsUptoCardSaid : Prop := Claim7.holds Tryd.pinned (.plain (OpenSpec.upto fileTellsSpec)) fileTellsUptoCard
end Rows
end Go.Proofs.YthnlgnnodgeneaaDoor
