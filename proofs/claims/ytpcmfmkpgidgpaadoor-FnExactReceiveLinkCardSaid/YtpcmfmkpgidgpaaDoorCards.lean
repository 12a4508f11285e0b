/-
  DERIVED. GIVEN WITH THE SEED: THE CARDS: each row of YtpcmfmkpgidgpaaDoorRows.lean that lists a variable, with what it lists TIED to the program's text (the seventh form; the later family's looks); each row that meets fmt, with fmt's text TOLD by the authors' own Lean function (tested against real Go, not proved from fmt's source: count such statements apart). THE CARD IS WHAT COUNTS. Prove the row's statement (the work); the ties are given (YtpcmfmkpgidgpaaDoorTie.lean); close each card by the builder's one call (the guide's Derived/Test/ToyasCard.lean, 'card_holds'). Laid BY PROGRAM, IN A SANDBOX (cutbox-door.mjs). By AI agents, Wed Nov 11 2026. No macro, syntax, notation, axiom, sorry.
-/
import Derived.Test.YtpcmfmkpgidgpaaDoorRows
import GoSem.ClaimSeven
namespace Go.Proofs.YtpcmfmkpgidgpaaDoor
namespace Rows

/-- THE TIED CARD OF 'laws.FnExactSendLink'. -/
def fnExactSendLinkCard : Claim7 := { stood := { row := fnExactSendLinkRow, standIns := [], harness := (true, "72083f0542d1bbc21e31591cda40f9b28d32bf031e4b7787891f88e48d6f1be2"), looks := false }, kinds := [], alts := [], laidByText := true, laidKinds := [.data, .data], laidTests := true, laidLooks := .later }
def FnExactSendLinkCardSaid : Prop := Claim7.holds Tryd.pinned (.plain (OpenSpec.ofChange fnExactSendLinkSpec)) fnExactSendLinkCard

/-- THE TIED CARD OF 'laws.FnSendLink'. -/
def fnSendLinkCard : Claim7 := { stood := { row := fnSendLinkRow, standIns := [], harness := (true, "72083f0542d1bbc21e31591cda40f9b28d32bf031e4b7787891f88e48d6f1be2"), looks := false }, kinds := [], alts := [], laidByText := true, laidKinds := [.data, .data], laidTests := true, laidLooks := .later }
def FnSendLinkCardSaid : Prop := Claim7.holds Tryd.pinned (.plain (OpenSpec.ofChange fnSendLinkSpec)) fnSendLinkCard

/-- THE TIED CARD OF 'laws.FnExactReceiveLink'. -/
def fnExactReceiveLinkCard : Claim7 := { stood := { row := fnExactReceiveLinkRow, standIns := [], harness := (true, "72083f0542d1bbc21e31591cda40f9b28d32bf031e4b7787891f88e48d6f1be2"), looks := false }, kinds := [], alts := [], laidByText := true, laidKinds := [.data], laidTests := true, laidLooks := .later }
def FnExactReceiveLinkCardSaid : Prop := Claim7.holds Tryd.pinned (.plain (OpenSpec.ofChange fnExactReceiveLinkSpec)) fnExactReceiveLinkCard

/-- THE TIED CARD OF 'laws.FnReceiveLink'. -/
def fnReceiveLinkCard : Claim7 := { stood := { row := fnReceiveLinkRow, standIns := [], harness := (true, "72083f0542d1bbc21e31591cda40f9b28d32bf031e4b7787891f88e48d6f1be2"), looks := false }, kinds := [], alts := [], laidByText := true, laidKinds := [.data, .data], laidTests := true, laidLooks := .later }
def FnReceiveLinkCardSaid : Prop := Claim7.holds Tryd.pinned (.plain (OpenSpec.ofChange fnReceiveLinkSpec)) fnReceiveLinkCard

/-- THE TIED CARD OF 'laws.FnVoiceLink'. -/
def fnVoiceLinkCard : Claim7 := { stood := { row := fnVoiceLinkRow, standIns := [], harness := (true, "72083f0542d1bbc21e31591cda40f9b28d32bf031e4b7787891f88e48d6f1be2"), looks := false }, kinds := [], alts := [], laidByText := true, laidKinds := [.data, .data], laidTests := true, laidLooks := .later }
def FnVoiceLinkCardSaid : Prop := Claim7.holds Tryd.pinned (.plain (OpenSpec.ofChange fnVoiceLinkSpec)) fnVoiceLinkCard

/-- THE SECOND FORM's CARD OF 'laws.FnExactSendLink'. -/
def fnExactSendLinkUptoCard : Claim7 := { stood := { row := fnExactSendLinkUptoRow, standIns := [], harness := (true, "72083f0542d1bbc21e31591cda40f9b28d32bf031e4b7787891f88e48d6f1be2"), looks := false }, kinds := [], alts := [], laidByText := true, laidKinds := [.data, .data], laidTests := true, laidLooks := .later }
def FnExactSendLinkUptoCardSaid : Prop := Claim7.holds Tryd.pinned (.plain (OpenSpec.upto fnExactSendLinkSpec)) fnExactSendLinkUptoCard

/-- THE SECOND FORM's CARD OF 'laws.FnSendLink'. -/
def fnSendLinkUptoCard : Claim7 := { stood := { row := fnSendLinkUptoRow, standIns := [], harness := (true, "72083f0542d1bbc21e31591cda40f9b28d32bf031e4b7787891f88e48d6f1be2"), looks := false }, kinds := [], alts := [], laidByText := true, laidKinds := [.data, .data], laidTests := true, laidLooks := .later }
def FnSendLinkUptoCardSaid : Prop := Claim7.holds Tryd.pinned (.plain (OpenSpec.upto fnSendLinkSpec)) fnSendLinkUptoCard

/-- THE SECOND FORM's CARD OF 'laws.FnExactReceiveLink'. -/
def fnExactReceiveLinkUptoCard : Claim7 := { stood := { row := fnExactReceiveLinkUptoRow, standIns := [], harness := (true, "72083f0542d1bbc21e31591cda40f9b28d32bf031e4b7787891f88e48d6f1be2"), looks := false }, kinds := [], alts := [], laidByText := true, laidKinds := [.data], laidTests := true, laidLooks := .later }
def FnExactReceiveLinkUptoCardSaid : Prop := Claim7.holds Tryd.pinned (.plain (OpenSpec.upto fnExactReceiveLinkSpec)) fnExactReceiveLinkUptoCard

/-- THE SECOND FORM's CARD OF 'laws.FnReceiveLink'. -/
def fnReceiveLinkUptoCard : Claim7 := { stood := { row := fnReceiveLinkUptoRow, standIns := [], harness := (true, "72083f0542d1bbc21e31591cda40f9b28d32bf031e4b7787891f88e48d6f1be2"), looks := false }, kinds := [], alts := [], laidByText := true, laidKinds := [.data, .data], laidTests := true, laidLooks := .later }
def FnReceiveLinkUptoCardSaid : Prop := Claim7.holds Tryd.pinned (.plain (OpenSpec.upto fnReceiveLinkSpec)) fnReceiveLinkUptoCard

/-- THE SECOND FORM's CARD OF 'laws.FnVoiceLink'. -/
def fnVoiceLinkUptoCard : Claim7 := { stood := { row := fnVoiceLinkUptoRow, standIns := [], harness := (true, "72083f0542d1bbc21e31591cda40f9b28d32bf031e4b7787891f88e48d6f1be2"), looks := false }, kinds := [], alts := [], laidByText := true, laidKinds := [.data, .data], laidTests := true, laidLooks := .later }
def FnVoiceLinkUptoCardSaid : Prop := Claim7.holds Tryd.pinned (.plain (OpenSpec.upto fnVoiceLinkSpec)) fnVoiceLinkUptoCard
end Rows
end Go.Proofs.YtpcmfmkpgidgpaaDoor
