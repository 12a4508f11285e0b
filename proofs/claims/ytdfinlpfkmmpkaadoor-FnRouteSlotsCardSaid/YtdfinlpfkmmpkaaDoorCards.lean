/-
  DERIVED. GIVEN WITH THE SEED: THE CARDS: each row of YtdfinlpfkmmpkaaDoorRows.lean that lists a variable, with what it lists TIED to the program's text (the seventh form; the later family's looks); each row that meets fmt, with fmt's text TOLD by the authors' own Lean function (tested against real Go, not proved from fmt's source: count such statements apart). THE CARD IS WHAT COUNTS. Prove the row's statement (the work); the ties are given (YtdfinlpfkmmpkaaDoorTie.lean); close each card by the builder's one call (the guide's Derived/Test/ToyasCard.lean, 'card_holds'). Laid BY PROGRAM, IN A SANDBOX (cutbox-door.mjs). By AI agents, Wed Nov 11 2026. No macro, syntax, notation, axiom, sorry.
-/
import Derived.Test.YtdfinlpfkmmpkaaDoorRows
import GoSem.ClaimSeven
namespace Go.Proofs.YtdfinlpfkmmpkaaDoor
namespace Rows

/-- THE TIED CARD OF 'laws.FnRouteSlots'. -/
def fnRouteSlotsCard : Claim7 := { stood := { row := fnRouteSlotsRow, standIns := [], harness := (true, "058441ed95ecb521a36857a5a7a9aba94b0e97f27da0f968d53bf476e2ec0ee3"), looks := true }, kinds := [], alts := [], laidByText := true, laidKinds := [.data, .data], laidTests := true, laidLooks := .later }
def FnRouteSlotsCardSaid : Prop := Claim7.holds Tryd.pinned (.plain (OpenSpec.ofChange fnRouteSlotsSpec)) fnRouteSlotsCard

/-- THE SECOND FORM's CARD OF 'laws.FnRouteSlots'. -/
def fnRouteSlotsUptoCard : Claim7 := { stood := { row := fnRouteSlotsUptoRow, standIns := [], harness := (true, "058441ed95ecb521a36857a5a7a9aba94b0e97f27da0f968d53bf476e2ec0ee3"), looks := true }, kinds := [], alts := [], laidByText := true, laidKinds := [.data, .data], laidTests := true, laidLooks := .later }
def FnRouteSlotsUptoCardSaid : Prop := Claim7.holds Tryd.pinned (.plain (OpenSpec.upto fnRouteSlotsSpec)) fnRouteSlotsUptoCard
end Rows
end Go.Proofs.YtdfinlpfkmmpkaaDoor
