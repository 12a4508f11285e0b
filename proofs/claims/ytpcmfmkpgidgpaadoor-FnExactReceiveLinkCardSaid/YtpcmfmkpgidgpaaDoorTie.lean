/-
  DERIVED. GIVEN WITH THE SEED: THE PROGRAM's TIES (one call each: nine closed facts by the kernel) AND EACH ROW's TIE, after the 31st guide's Derived/Test/Toyas{Tie, Card}.lean. No idea stands in it: it is a product of the set-up. Laid BY PROGRAM, IN A SANDBOX (cutbox-door.mjs). By AI agents, Wed Nov 11 2026. No macro, syntax, notation, axiom, sorry.
-/
import Derived.Test.YtpcmfmkpgidgpaaDoorRows
import Derived.LaidByTextLater
import Derived.SevenTiedAt
import Derived.LaidSub
import Derived.LaidOnce
namespace Go.Proofs.YtpcmfmkpgidgpaaDoor
open Go
set_option maxRecDepth 100000
theorem seatTie1 : Tryd.prog.laidByTextLater [("loop.example/softwareradio/impl.dataPlaces", Rows.laid_loop_example_softwareradio_impl_dataPlaces), ("loop.example/softwareradio/impl.checkMasks", Rows.laid_loop_example_softwareradio_impl_checkMasks)] [.data, .data] true :=
  Program.laidByTextLater_by_one 32 8 13 (by kernel_rfl) (by kernel_rfl) (by kernel_rfl) (by kernel_rfl) (by kernel_rfl) (by kernel_rfl) (fun _ _ => by kernel_rfl)
theorem noOwnUnsafe : Tryd.pinned.checked.prog.headLifts.contains "ownunsafe" = false := by kernel_rfl
theorem tie : Tryd.prog.laidByTextLater [("loop.example/softwareradio/impl.dataPlaces", Rows.laid_loop_example_softwareradio_impl_dataPlaces), ("loop.example/softwareradio/impl.checkMasks", Rows.laid_loop_example_softwareradio_impl_checkMasks)] [.data, .data] true :=
  Program.laidByTextLater.sub seatTie1 ["loop.example/softwareradio/impl.dataPlaces", "loop.example/softwareradio/impl.checkMasks"] (by kernel_rfl) (by kernel_rfl)
theorem fnExactSendLink_row_tie : Rows.fnExactSendLinkRow.laidByTextAt .later Tryd.pinned [.data, .data] true :=
  OpenClaim.laidByTextAt_later rfl rfl tie noOwnUnsafe
theorem fnSendLink_row_tie : Rows.fnSendLinkRow.laidByTextAt .later Tryd.pinned [.data, .data] true :=
  OpenClaim.laidByTextAt_later rfl rfl tie noOwnUnsafe
theorem fnReceiveLink_row_tie : Rows.fnReceiveLinkRow.laidByTextAt .later Tryd.pinned [.data, .data] true :=
  OpenClaim.laidByTextAt_later rfl rfl tie noOwnUnsafe
theorem fnVoiceLink_row_tie : Rows.fnVoiceLinkRow.laidByTextAt .later Tryd.pinned [.data, .data] true :=
  OpenClaim.laidByTextAt_later rfl rfl tie noOwnUnsafe
theorem tie2 : Tryd.prog.laidByTextLater [("loop.example/softwareradio/impl.dataPlaces", Rows.laid_loop_example_softwareradio_impl_dataPlaces)] [.data] true :=
  Program.laidByTextLater.sub seatTie1 ["loop.example/softwareradio/impl.dataPlaces"] (by kernel_rfl) (by kernel_rfl)
theorem fnExactReceiveLink_row_tie : Rows.fnExactReceiveLinkRow.laidByTextAt .later Tryd.pinned [.data] true :=
  OpenClaim.laidByTextAt_later rfl rfl tie2 noOwnUnsafe
theorem fnExactSendLinkUpto_row_tie : Rows.fnExactSendLinkUptoRow.laidByTextAt .later Tryd.pinned [.data, .data] true :=
  OpenClaim.laidByTextAt_later rfl rfl tie noOwnUnsafe
theorem fnSendLinkUpto_row_tie : Rows.fnSendLinkUptoRow.laidByTextAt .later Tryd.pinned [.data, .data] true :=
  OpenClaim.laidByTextAt_later rfl rfl tie noOwnUnsafe
theorem fnExactReceiveLinkUpto_row_tie : Rows.fnExactReceiveLinkUptoRow.laidByTextAt .later Tryd.pinned [.data] true :=
  OpenClaim.laidByTextAt_later rfl rfl tie2 noOwnUnsafe
theorem fnReceiveLinkUpto_row_tie : Rows.fnReceiveLinkUptoRow.laidByTextAt .later Tryd.pinned [.data, .data] true :=
  OpenClaim.laidByTextAt_later rfl rfl tie noOwnUnsafe
theorem fnVoiceLinkUpto_row_tie : Rows.fnVoiceLinkUptoRow.laidByTextAt .later Tryd.pinned [.data, .data] true :=
  OpenClaim.laidByTextAt_later rfl rfl tie noOwnUnsafe
end Go.Proofs.YtpcmfmkpgidgpaaDoor
