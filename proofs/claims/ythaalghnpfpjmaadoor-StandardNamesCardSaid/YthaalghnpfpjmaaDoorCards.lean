/-
  DERIVED. GIVEN WITH THE SEED: THE CARDS: each row of YthaalghnpfpjmaaDoorRows.lean that lists a variable, with what it lists TIED to the program's text (the seventh form; the later family's looks); each row that meets fmt, with fmt's text TOLD by the authors' own Lean function (tested against real Go, not proved from fmt's source: count such statements apart). THE CARD IS WHAT COUNTS. Prove the row's statement (the work); the ties are given (YthaalghnpfpjmaaDoorTie.lean); close each card by the builder's one call (the guide's Derived/Test/ToyasCard.lean, 'card_holds'). Laid BY PROGRAM, IN A SANDBOX (cutbox-door.mjs). By AI agents, Wed Nov 11 2026. No macro, syntax, notation, axiom, sorry.
-/
import Derived.Test.YthaalghnpfpjmaaDoorRows
import GoSem.ClaimSeven
namespace Go.Proofs.YthaalghnpfpjmaaDoor
namespace Rows

/-- THE TIED CARD OF 'sievelaw22.StandardNames'. -/
def standardNamesCard : Claim7 := { stood := { row := standardNamesRow, standIns := [], harness := (true, "bc247b228c89b64e2e7ab3c46109ded021b16c436dfe689f7dc07b9b02edb299"), looks := true }, kinds := [], alts := [], laidByText := true, laidKinds := [.data, .listed, .data, .data, .pinned], laidTests := true, laidLooks := .later }
def StandardNamesCardSaid : Prop := Claim7.holds Tryd.pinned (.plain (OpenSpec.ofChange standardNamesSpec)) standardNamesCard

/-- THE SECOND FORM's CARD OF 'sievelaw22.StandardNames'. -/
def standardNamesUptoCard : Claim7 := { stood := { row := standardNamesUptoRow, standIns := [], harness := (true, "bc247b228c89b64e2e7ab3c46109ded021b16c436dfe689f7dc07b9b02edb299"), looks := true }, kinds := [], alts := [], laidByText := true, laidKinds := [.data, .listed, .data, .data, .pinned], laidTests := true, laidLooks := .later }
def StandardNamesUptoCardSaid : Prop := Claim7.holds Tryd.pinned (.plain (OpenSpec.upto standardNamesSpec)) standardNamesUptoCard
end Rows
end Go.Proofs.YthaalghnpfpjmaaDoor
