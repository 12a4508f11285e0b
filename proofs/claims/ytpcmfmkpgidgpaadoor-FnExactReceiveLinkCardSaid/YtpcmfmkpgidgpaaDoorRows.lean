/-
  NARROWER THAN 'FOR EVERY INPUT', by the rows' own cells (each row's printed sentence says how): FnExactSendLink: laid · FnSendLink: laid · FnExactReceiveLink: laid · FnReceiveLink: laid · FnVoiceLink: laid.
  DERIVED. THE GIVEN ROWS OF THIS SEAT. 5 by the template 'for every input the law returns true; each argument reads behind the call as it read before'; 0 by the template 'total and deterministic' (their statements: YtpcmfmkpgidgpaaDoorTotals.lean).
  GIVEN WITH THE SEED: the statements are not yours to turn. If you find one false, say at which input.
  Laid BY PROGRAM, IN A SANDBOX (cutbox-rows.mjs): the forced cells as the released guide's own fill.sh prints them over the translation 62f19cb489bf7f8e… (all of the seat's roots in one cut). By AI agents, Wed Nov 11 2026. No macro, syntax, notation, axiom, sorry.
-/
import Derived.Test.YtpcmfmkpgidgpaaDoorChecked
import GoSem.Claim
import GoSem.ClaimJoined
import GoSem.ClaimMapViews
import Derived.JoinedTies
import Derived.KernelRfl
namespace Go.Proofs.YtpcmfmkpgidgpaaDoor
/- THE CELL 'sum', in the pinned program and in every row, IS THE sha256 OF THE DUMP (.gsa) THAT YtpcmfmkpgidgpaaDoorProg.lean LOADS. Nothing in Lean hashes anything: it is a label: what it is worth is what the hold of that sum in a sandbox is worth. -/
noncomputable def Tryd.pinned : Pinned := { name := "ytpcmfmkpgidgpaadoor", sum := "62f19cb489bf7f8eea0616bfa3d281a82484e4a689223c7d6c2af6ed8c565f37", checked := Tryd.checked }
namespace Rows
def none {H : Type} : Left H := { results := [], args := [] }

/- WHAT THE LISTED PACKAGE-LEVEL VARIABLES READ AS WHEN THE CALL BEGINS. Each datum BY PROGRAM (the guide's laid-datum.mjs) off the statement by which the dump's own 'gosem.cut.vars' lays the variable. In a bare row this is a premise. The card (YtpcmfmkpgidgpaaDoorCards.lean) ties it to the program's text. -/
def laid_loop_example_softwareradio_impl_dataPlaces {H : Type} : DataW H := .agg [.lit (.int .i64 2), .lit (.int .i64 4), .lit (.int .i64 5), .lit (.int .i64 6)]
def laid_loop_example_softwareradio_impl_checkMasks {H : Type} : DataW H := .agg [.agg [.lit (.int .i64 1), .lit (.int .i64 1), .lit (.int .i64 0), .lit (.int .i64 1)], .agg [.lit (.int .i64 1), .lit (.int .i64 0), .lit (.int .i64 1), .lit (.int .i64 1)], .agg [.lit (.int .i64 0), .lit (.int .i64 1), .lit (.int .i64 1), .lit (.int .i64 1)]]

/-- 'laws.FnExactSendLink': WHATEVER THE INPUT: true; the input reads as it did. -/
def fnExactSendLinkSpec : ChangeSpec := { name := "fnExactSendLink", vars := ["loop.example/softwareradio/impl.dataPlaces", "loop.example/softwareradio/impl.checkMasks"], fn := fun _ => fun
  | [d, g1, g2] => { results := [.lit (.bool true)], args := [d], vars := [g1, g2] }
  | _ => none }
def fnExactSendLinkRow : OpenClaim := { program := "ytpcmfmkpgidgpaadoor", sum := "62f19cb489bf7f8eea0616bfa3d281a82484e4a689223c7d6c2af6ed8c565f37", func := "loop.example/softwareradio/laws.FnExactSendLink", spec := "fnExactSendLink", unfollowed := true, recurses := true, named := ["loop.example/softwareradio/impl.dataPlaces", "loop.example/softwareradio/impl.checkMasks"], apart := false, laid := [("loop.example/softwareradio/impl.dataPlaces", laid_loop_example_softwareradio_impl_dataPlaces), ("loop.example/softwareradio/impl.checkMasks", laid_loop_example_softwareradio_impl_checkMasks)] }
def FnExactSendLinkSaid : Prop := fnExactSendLinkRow.holds Tryd.pinned (OpenSpec.ofChange fnExactSendLinkSpec)

/-- ITS FALSE NEIGHBOUR: 'it returns false'. Refute it at one input. -/
def fnExactSendLinkWrong : ChangeSpec := { name := "fnExactSendLink", vars := ["loop.example/softwareradio/impl.dataPlaces", "loop.example/softwareradio/impl.checkMasks"], fn := fun _ => fun
  | [d, g1, g2] => { results := [.lit (.bool false)], args := [d], vars := [g1, g2] }
  | _ => none }
def FnExactSendLinkWrongFalsely : Prop := fnExactSendLinkRow.holds Tryd.pinned (OpenSpec.ofChange fnExactSendLinkWrong)

/-- 'laws.FnSendLink': WHATEVER THE INPUT: true; the input reads as it did. -/
def fnSendLinkSpec : ChangeSpec := { name := "fnSendLink", vars := ["loop.example/softwareradio/impl.dataPlaces", "loop.example/softwareradio/impl.checkMasks"], fn := fun _ => fun
  | [d1, d2, g1, g2] => { results := [.lit (.bool true)], args := [d1, d2], vars := [g1, g2] }
  | _ => none }
def fnSendLinkRow : OpenClaim := { program := "ytpcmfmkpgidgpaadoor", sum := "62f19cb489bf7f8eea0616bfa3d281a82484e4a689223c7d6c2af6ed8c565f37", func := "loop.example/softwareradio/laws.FnSendLink", spec := "fnSendLink", unfollowed := true, recurses := true, named := ["loop.example/softwareradio/impl.dataPlaces", "loop.example/softwareradio/impl.checkMasks"], apart := false, laid := [("loop.example/softwareradio/impl.dataPlaces", laid_loop_example_softwareradio_impl_dataPlaces), ("loop.example/softwareradio/impl.checkMasks", laid_loop_example_softwareradio_impl_checkMasks)] }
def FnSendLinkSaid : Prop := fnSendLinkRow.holds Tryd.pinned (OpenSpec.ofChange fnSendLinkSpec)

/-- ITS FALSE NEIGHBOUR: 'it returns false'. Refute it at one input. -/
def fnSendLinkWrong : ChangeSpec := { name := "fnSendLink", vars := ["loop.example/softwareradio/impl.dataPlaces", "loop.example/softwareradio/impl.checkMasks"], fn := fun _ => fun
  | [d1, d2, g1, g2] => { results := [.lit (.bool false)], args := [d1, d2], vars := [g1, g2] }
  | _ => none }
def FnSendLinkWrongFalsely : Prop := fnSendLinkRow.holds Tryd.pinned (OpenSpec.ofChange fnSendLinkWrong)

/-- 'laws.FnExactReceiveLink': WHATEVER THE INPUT: true; the input reads as it did. -/
def fnExactReceiveLinkSpec : ChangeSpec := { name := "fnExactReceiveLink", vars := ["loop.example/softwareradio/impl.dataPlaces"], fn := fun _ => fun
  | [d, g1] => { results := [.lit (.bool true)], args := [d], vars := [g1] }
  | _ => none }
def fnExactReceiveLinkRow : OpenClaim := { program := "ytpcmfmkpgidgpaadoor", sum := "62f19cb489bf7f8eea0616bfa3d281a82484e4a689223c7d6c2af6ed8c565f37", func := "loop.example/softwareradio/laws.FnExactReceiveLink", spec := "fnExactReceiveLink", unfollowed := true, recurses := true, named := ["loop.example/softwareradio/impl.dataPlaces"], apart := false, laid := [("loop.example/softwareradio/impl.dataPlaces", laid_loop_example_softwareradio_impl_dataPlaces)] }
def FnExactReceiveLinkSaid : Prop := fnExactReceiveLinkRow.holds Tryd.pinned (OpenSpec.ofChange fnExactReceiveLinkSpec)

/-- ITS FALSE NEIGHBOUR: 'it returns false'. Refute it at one input. -/
def fnExactReceiveLinkWrong : ChangeSpec := { name := "fnExactReceiveLink", vars := ["loop.example/softwareradio/impl.dataPlaces"], fn := fun _ => fun
  | [d, g1] => { results := [.lit (.bool false)], args := [d], vars := [g1] }
  | _ => none }
def FnExactReceiveLinkWrongFalsely : Prop := fnExactReceiveLinkRow.holds Tryd.pinned (OpenSpec.ofChange fnExactReceiveLinkWrong)

/-- 'laws.FnReceiveLink': WHATEVER THE INPUT: true; the input reads as it did. -/
def fnReceiveLinkSpec : ChangeSpec := { name := "fnReceiveLink", vars := ["loop.example/softwareradio/impl.dataPlaces", "loop.example/softwareradio/impl.checkMasks"], fn := fun _ => fun
  | [d, g1, g2] => { results := [.lit (.bool true)], args := [d], vars := [g1, g2] }
  | _ => none }
def fnReceiveLinkRow : OpenClaim := { program := "ytpcmfmkpgidgpaadoor", sum := "62f19cb489bf7f8eea0616bfa3d281a82484e4a689223c7d6c2af6ed8c565f37", func := "loop.example/softwareradio/laws.FnReceiveLink", spec := "fnReceiveLink", unfollowed := true, recurses := true, named := ["loop.example/softwareradio/impl.dataPlaces", "loop.example/softwareradio/impl.checkMasks"], apart := false, laid := [("loop.example/softwareradio/impl.dataPlaces", laid_loop_example_softwareradio_impl_dataPlaces), ("loop.example/softwareradio/impl.checkMasks", laid_loop_example_softwareradio_impl_checkMasks)] }
def FnReceiveLinkSaid : Prop := fnReceiveLinkRow.holds Tryd.pinned (OpenSpec.ofChange fnReceiveLinkSpec)

/-- ITS FALSE NEIGHBOUR: 'it returns false'. Refute it at one input. -/
def fnReceiveLinkWrong : ChangeSpec := { name := "fnReceiveLink", vars := ["loop.example/softwareradio/impl.dataPlaces", "loop.example/softwareradio/impl.checkMasks"], fn := fun _ => fun
  | [d, g1, g2] => { results := [.lit (.bool false)], args := [d], vars := [g1, g2] }
  | _ => none }
def FnReceiveLinkWrongFalsely : Prop := fnReceiveLinkRow.holds Tryd.pinned (OpenSpec.ofChange fnReceiveLinkWrong)

/-- 'laws.FnVoiceLink': WHATEVER THE INPUT: true; the input reads as it did. -/
def fnVoiceLinkSpec : ChangeSpec := { name := "fnVoiceLink", vars := ["loop.example/softwareradio/impl.dataPlaces", "loop.example/softwareradio/impl.checkMasks"], fn := fun _ => fun
  | [d, g1, g2] => { results := [.lit (.bool true)], args := [d], vars := [g1, g2] }
  | _ => none }
def fnVoiceLinkRow : OpenClaim := { program := "ytpcmfmkpgidgpaadoor", sum := "62f19cb489bf7f8eea0616bfa3d281a82484e4a689223c7d6c2af6ed8c565f37", func := "loop.example/softwareradio/laws.FnVoiceLink", spec := "fnVoiceLink", unfollowed := true, recurses := true, named := ["loop.example/softwareradio/impl.dataPlaces", "loop.example/softwareradio/impl.checkMasks"], apart := false, laid := [("loop.example/softwareradio/impl.dataPlaces", laid_loop_example_softwareradio_impl_dataPlaces), ("loop.example/softwareradio/impl.checkMasks", laid_loop_example_softwareradio_impl_checkMasks)] }
def FnVoiceLinkSaid : Prop := fnVoiceLinkRow.holds Tryd.pinned (OpenSpec.ofChange fnVoiceLinkSpec)

/-- ITS FALSE NEIGHBOUR: 'it returns false'. Refute it at one input. -/
def fnVoiceLinkWrong : ChangeSpec := { name := "fnVoiceLink", vars := ["loop.example/softwareradio/impl.dataPlaces", "loop.example/softwareradio/impl.checkMasks"], fn := fun _ => fun
  | [d, g1, g2] => { results := [.lit (.bool false)], args := [d], vars := [g1, g2] }
  | _ => none }
def FnVoiceLinkWrongFalsely : Prop := fnVoiceLinkRow.holds Tryd.pinned (OpenSpec.ofChange fnVoiceLinkWrong)

/- THE SECOND FORM. 'bulk': how many values and letters a reading holds, each counted each time it is reached (what is shared counts as often as it is met; a slice's spare places count too). A statement '..UptoSaid' is the law's where the arguments, and the package variables that the reading takes, are together of bulk at most 1048576: NARROWER than '..Said'. Prove '..Said' where nothing that the law and all that it calls make is longer than what came in: it says more and counts as full. Else prove '..UptoSaid'. A law counts once. -/
mutual
def uptoBulk {H : Type} : DataW H → Nat
  | .lit (.string bytes) => bytes.length + 1
  | .lit _ => 1
  | .nil => 1
  | .ptr d => uptoBulk d + 1
  | .slice elems spare => uptoBulkAll elems + uptoBulkAll spare + 1
  | .agg parts => uptoBulkAll parts + 1
  | .iface _ d => uptoBulk d + 1
  | .map entries => uptoBulkEntries entries + 1
  | .held _ => 1
def uptoBulkAll {H : Type} : List (DataW H) → Nat
  | [] => 0
  | d :: r => uptoBulk d + uptoBulkAll r
def uptoBulkEntries {H : Type} : List (Lit × DataW H) → Nat
  | [] => 0
  | x :: r => uptoBulkEntry x + uptoBulkEntries r
def uptoBulkEntry {H : Type} : Lit × DataW H → Nat
  | (.string bytes, d) => bytes.length + uptoBulk d + 1
  | (_, d) => uptoBulk d + 1
 end
def uptoSmall : (H : Type) → List (DataW H) → Bool := fun _ ds => decide (uptoBulkAll ds ≤ 1048576)
def OpenSpec.upto (s : _root_.Go.ChangeSpec) : _root_.Go.OpenSpec := { _root_.Go.OpenSpec.ofChange s with cond := some uptoSmall }

/-- 'laws.FnExactSendLink', WHERE WHAT IT READS IS OF BULK AT MOST 1048576: true; the input reads as it did. -/
def fnExactSendLinkUptoRow : OpenClaim := { program := "ytpcmfmkpgidgpaadoor", sum := "62f19cb489bf7f8eea0616bfa3d281a82484e4a689223c7d6c2af6ed8c565f37", func := "loop.example/softwareradio/laws.FnExactSendLink", spec := "fnExactSendLink", unfollowed := true, recurses := true, named := ["loop.example/softwareradio/impl.dataPlaces", "loop.example/softwareradio/impl.checkMasks"], apart := false, laid := [("loop.example/softwareradio/impl.dataPlaces", laid_loop_example_softwareradio_impl_dataPlaces), ("loop.example/softwareradio/impl.checkMasks", laid_loop_example_softwareradio_impl_checkMasks)], narrowed := true }
def FnExactSendLinkUptoSaid : Prop := fnExactSendLinkUptoRow.holds Tryd.pinned (OpenSpec.upto fnExactSendLinkSpec)

/-- 'laws.FnSendLink', WHERE WHAT IT READS IS OF BULK AT MOST 1048576: true; the input reads as it did. -/
def fnSendLinkUptoRow : OpenClaim := { program := "ytpcmfmkpgidgpaadoor", sum := "62f19cb489bf7f8eea0616bfa3d281a82484e4a689223c7d6c2af6ed8c565f37", func := "loop.example/softwareradio/laws.FnSendLink", spec := "fnSendLink", unfollowed := true, recurses := true, named := ["loop.example/softwareradio/impl.dataPlaces", "loop.example/softwareradio/impl.checkMasks"], apart := false, laid := [("loop.example/softwareradio/impl.dataPlaces", laid_loop_example_softwareradio_impl_dataPlaces), ("loop.example/softwareradio/impl.checkMasks", laid_loop_example_softwareradio_impl_checkMasks)], narrowed := true }
def FnSendLinkUptoSaid : Prop := fnSendLinkUptoRow.holds Tryd.pinned (OpenSpec.upto fnSendLinkSpec)

/-- 'laws.FnExactReceiveLink', WHERE WHAT IT READS IS OF BULK AT MOST 1048576: true; the input reads as it did. -/
def fnExactReceiveLinkUptoRow : OpenClaim := { program := "ytpcmfmkpgidgpaadoor", sum := "62f19cb489bf7f8eea0616bfa3d281a82484e4a689223c7d6c2af6ed8c565f37", func := "loop.example/softwareradio/laws.FnExactReceiveLink", spec := "fnExactReceiveLink", unfollowed := true, recurses := true, named := ["loop.example/softwareradio/impl.dataPlaces"], apart := false, laid := [("loop.example/softwareradio/impl.dataPlaces", laid_loop_example_softwareradio_impl_dataPlaces)], narrowed := true }
def FnExactReceiveLinkUptoSaid : Prop := fnExactReceiveLinkUptoRow.holds Tryd.pinned (OpenSpec.upto fnExactReceiveLinkSpec)

/-- 'laws.FnReceiveLink', WHERE WHAT IT READS IS OF BULK AT MOST 1048576: true; the input reads as it did. -/
def fnReceiveLinkUptoRow : OpenClaim := { program := "ytpcmfmkpgidgpaadoor", sum := "62f19cb489bf7f8eea0616bfa3d281a82484e4a689223c7d6c2af6ed8c565f37", func := "loop.example/softwareradio/laws.FnReceiveLink", spec := "fnReceiveLink", unfollowed := true, recurses := true, named := ["loop.example/softwareradio/impl.dataPlaces", "loop.example/softwareradio/impl.checkMasks"], apart := false, laid := [("loop.example/softwareradio/impl.dataPlaces", laid_loop_example_softwareradio_impl_dataPlaces), ("loop.example/softwareradio/impl.checkMasks", laid_loop_example_softwareradio_impl_checkMasks)], narrowed := true }
def FnReceiveLinkUptoSaid : Prop := fnReceiveLinkUptoRow.holds Tryd.pinned (OpenSpec.upto fnReceiveLinkSpec)

/-- 'laws.FnVoiceLink', WHERE WHAT IT READS IS OF BULK AT MOST 1048576: true; the input reads as it did. -/
def fnVoiceLinkUptoRow : OpenClaim := { program := "ytpcmfmkpgidgpaadoor", sum := "62f19cb489bf7f8eea0616bfa3d281a82484e4a689223c7d6c2af6ed8c565f37", func := "loop.example/softwareradio/laws.FnVoiceLink", spec := "fnVoiceLink", unfollowed := true, recurses := true, named := ["loop.example/softwareradio/impl.dataPlaces", "loop.example/softwareradio/impl.checkMasks"], apart := false, laid := [("loop.example/softwareradio/impl.dataPlaces", laid_loop_example_softwareradio_impl_dataPlaces), ("loop.example/softwareradio/impl.checkMasks", laid_loop_example_softwareradio_impl_checkMasks)], narrowed := true }
def FnVoiceLinkUptoSaid : Prop := fnVoiceLinkUptoRow.holds Tryd.pinned (OpenSpec.upto fnVoiceLinkSpec)

end Rows
end Go.Proofs.YtpcmfmkpgidgpaaDoor
