/-
  DERIVED. GIVEN WITH THE SEED: THE CARDS: each row of YtjgafkoboolclaaDoorRows.lean that lists a variable, with what it lists TIED to the program's text (the seventh form; the later family's looks); each row that meets fmt, with fmt's text TOLD by the authors' own Lean function (tested against real Go, not proved from fmt's source: count such statements apart). THE CARD IS WHAT COUNTS. Prove the row's statement (the work); the ties are given (YtjgafkoboolclaaDoorTie.lean); close each card by the builder's one call (the guide's Derived/Test/ToyasCard.lean, 'card_holds'). Laid BY PROGRAM, IN A SANDBOX (cutbox-door.mjs). By AI agents, Wed Nov 11 2026. No macro, syntax, notation, axiom, sorry.
-/
import Derived.Test.YtjgafkoboolclaaDoorRows
import GoSem.ClaimSeven
namespace Go.Proofs.YtjgafkoboolclaaDoor
namespace Rows

/-- THE TIED CARD OF 'laws.FnExactBuildFrame'. -/
def fnExactBuildFrameCard : Claim7 := { stood := { row := fnExactBuildFrameRow, standIns := [], harness := (true, "f3e862e700c3b7595ecdbeabe85876387a77068dd8b2ca846b9a7a32be9806a9"), looks := false }, kinds := [], alts := [], laidByText := true, laidKinds := [.widerDeep], laidTests := true, laidLooks := .later }
def FnExactBuildFrameCardSaid : Prop := Claim7.holds Tryd.pinned (.plain (OpenSpec.ofChange fnExactBuildFrameSpec)) fnExactBuildFrameCard

/-- THE TIED CARD OF 'laws.FnBuildFrame'. -/
def fnBuildFrameCard : Claim7 := { stood := { row := fnBuildFrameRow, standIns := [], harness := (true, "f3e862e700c3b7595ecdbeabe85876387a77068dd8b2ca846b9a7a32be9806a9"), looks := false }, kinds := [], alts := [], laidByText := true, laidKinds := [.widerDeep], laidTests := true, laidLooks := .later }
def FnBuildFrameCardSaid : Prop := Claim7.holds Tryd.pinned (.plain (OpenSpec.ofChange fnBuildFrameSpec)) fnBuildFrameCard

/-- THE TIED CARD OF 'laws.FnFrameDamaged'. -/
def fnFrameDamagedCard : Claim7 := { stood := { row := fnFrameDamagedRow, standIns := [], harness := (true, "f3e862e700c3b7595ecdbeabe85876387a77068dd8b2ca846b9a7a32be9806a9"), looks := false }, kinds := [], alts := [], laidByText := true, laidKinds := [.widerDeep], laidTests := true, laidLooks := .later }
def FnFrameDamagedCardSaid : Prop := Claim7.holds Tryd.pinned (.plain (OpenSpec.ofChange fnFrameDamagedSpec)) fnFrameDamagedCard

/-- THE TIED CARD OF 'laws.FnFindFrames'. -/
def fnFindFramesCard : Claim7 := { stood := { row := fnFindFramesRow, standIns := [], harness := (true, "f3e862e700c3b7595ecdbeabe85876387a77068dd8b2ca846b9a7a32be9806a9"), looks := false }, kinds := [], alts := [], laidByText := true, laidKinds := [.widerDeep], laidTests := true, laidLooks := .later }
def FnFindFramesCardSaid : Prop := Claim7.holds Tryd.pinned (.plain (OpenSpec.ofChange fnFindFramesSpec)) fnFindFramesCard

/-- THE TIED CARD OF 'laws.FnFramedMessage'. -/
def fnFramedMessageCard : Claim7 := { stood := { row := fnFramedMessageRow, standIns := [], harness := (true, "f3e862e700c3b7595ecdbeabe85876387a77068dd8b2ca846b9a7a32be9806a9"), looks := false }, kinds := [], alts := [], laidByText := true, laidKinds := [.widerDeep], laidTests := true, laidLooks := .later }
def FnFramedMessageCardSaid : Prop := Claim7.holds Tryd.pinned (.plain (OpenSpec.ofChange fnFramedMessageSpec)) fnFramedMessageCard

/-- THE SECOND FORM's CARD OF 'laws.FnExactBuildFrame'. -/
def fnExactBuildFrameUptoCard : Claim7 := { stood := { row := fnExactBuildFrameUptoRow, standIns := [], harness := (true, "f3e862e700c3b7595ecdbeabe85876387a77068dd8b2ca846b9a7a32be9806a9"), looks := false }, kinds := [], alts := [], laidByText := true, laidKinds := [.widerDeep], laidTests := true, laidLooks := .later }
def FnExactBuildFrameUptoCardSaid : Prop := Claim7.holds Tryd.pinned (.plain (OpenSpec.upto fnExactBuildFrameSpec)) fnExactBuildFrameUptoCard

/-- THE SECOND FORM's CARD OF 'laws.FnBuildFrame'. -/
def fnBuildFrameUptoCard : Claim7 := { stood := { row := fnBuildFrameUptoRow, standIns := [], harness := (true, "f3e862e700c3b7595ecdbeabe85876387a77068dd8b2ca846b9a7a32be9806a9"), looks := false }, kinds := [], alts := [], laidByText := true, laidKinds := [.widerDeep], laidTests := true, laidLooks := .later }
def FnBuildFrameUptoCardSaid : Prop := Claim7.holds Tryd.pinned (.plain (OpenSpec.upto fnBuildFrameSpec)) fnBuildFrameUptoCard

/-- THE SECOND FORM's CARD OF 'laws.FnFrameDamaged'. -/
def fnFrameDamagedUptoCard : Claim7 := { stood := { row := fnFrameDamagedUptoRow, standIns := [], harness := (true, "f3e862e700c3b7595ecdbeabe85876387a77068dd8b2ca846b9a7a32be9806a9"), looks := false }, kinds := [], alts := [], laidByText := true, laidKinds := [.widerDeep], laidTests := true, laidLooks := .later }
def FnFrameDamagedUptoCardSaid : Prop := Claim7.holds Tryd.pinned (.plain (OpenSpec.upto fnFrameDamagedSpec)) fnFrameDamagedUptoCard

/-- THE SECOND FORM's CARD OF 'laws.FnFindFrames'. -/
def fnFindFramesUptoCard : Claim7 := { stood := { row := fnFindFramesUptoRow, standIns := [], harness := (true, "f3e862e700c3b7595ecdbeabe85876387a77068dd8b2ca846b9a7a32be9806a9"), looks := false }, kinds := [], alts := [], laidByText := true, laidKinds := [.widerDeep], laidTests := true, laidLooks := .later }
def FnFindFramesUptoCardSaid : Prop := Claim7.holds Tryd.pinned (.plain (OpenSpec.upto fnFindFramesSpec)) fnFindFramesUptoCard

/-- THE SECOND FORM's CARD OF 'laws.FnFramedMessage'. -/
def fnFramedMessageUptoCard : Claim7 := { stood := { row := fnFramedMessageUptoRow, standIns := [], harness := (true, "f3e862e700c3b7595ecdbeabe85876387a77068dd8b2ca846b9a7a32be9806a9"), looks := false }, kinds := [], alts := [], laidByText := true, laidKinds := [.widerDeep], laidTests := true, laidLooks := .later }
def FnFramedMessageUptoCardSaid : Prop := Claim7.holds Tryd.pinned (.plain (OpenSpec.upto fnFramedMessageSpec)) fnFramedMessageUptoCard
end Rows
end Go.Proofs.YtjgafkoboolclaaDoor
