/-
  DERIVED. GIVEN WITH THE SEED: THE CARDS: each row of YtffehfpbdcokbaaDoorRows.lean that lists a variable, with what it lists TIED to the program's text (the seventh form; the later family's looks); each row that meets fmt, with fmt's text TOLD by the authors' own Lean function (tested against real Go, not proved from fmt's source: count such statements apart). THE CARD IS WHAT COUNTS. Prove the row's statement (the work); the ties are given (YtffehfpbdcokbaaDoorTie.lean); close each card by the builder's one call (the guide's Derived/Test/ToyasCard.lean, 'card_holds'). Laid BY PROGRAM, IN A SANDBOX (cutbox-door.mjs). By AI agents, Wed Nov 11 2026. No macro, syntax, notation, axiom, sorry.
-/
import Derived.Test.YtffehfpbdcokbaaDoorRows
import GoSem.ClaimSeven
namespace Go.Proofs.YtffehfpbdcokbaaDoor
namespace Rows

/-- THE TIED CARD OF 'balerlaw12.LzmaSame'. -/
def lzmaSameCard : Claim7 := { stood := { row := lzmaSameRow, standIns := [], harness := (true, "8363f3e6db736c16820eeac455323c629786f82e03f7265fe1650c320fb2c656"), looks := true }, kinds := [], alts := [], laidByText := true, laidKinds := [.data, .data, .data], laidTests := true, laidLooks := .later }
def LzmaSameCardSaid : Prop := Claim7.holds Tryd.pinned (.plain (OpenSpec.ofChange lzmaSameSpec)) lzmaSameCard

/-- THE SECOND FORM's CARD OF 'balerlaw12.LzmaSame'. -/
def lzmaSameUptoCard : Claim7 := { stood := { row := lzmaSameUptoRow, standIns := [], harness := (true, "8363f3e6db736c16820eeac455323c629786f82e03f7265fe1650c320fb2c656"), looks := true }, kinds := [], alts := [], laidByText := true, laidKinds := [.data, .data, .data], laidTests := true, laidLooks := .later }
def LzmaSameUptoCardSaid : Prop := Claim7.holds Tryd.pinned (.plain (OpenSpec.upto lzmaSameSpec)) lzmaSameUptoCard
end Rows
end Go.Proofs.YtffehfpbdcokbaaDoor
