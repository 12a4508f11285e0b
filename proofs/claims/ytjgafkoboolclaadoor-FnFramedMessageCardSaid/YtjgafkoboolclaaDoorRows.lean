/-
  NARROWER THAN 'FOR EVERY INPUT', by the rows' own cells (each row's printed sentence says how): FnExactBuildFrame: laid · FnBuildFrame: laid · FnFrameDamaged: laid · FnFindFrames: laid · FnFramedMessage: laid.
  DERIVED. THE GIVEN ROWS OF THIS SEAT. 5 by the template 'for every input the law returns true; each argument reads behind the call as it read before'; 0 by the template 'total and deterministic' (their statements: YtjgafkoboolclaaDoorTotals.lean).
  GIVEN WITH THE SEED: the statements are not yours to turn. If you find one false, say at which input.
  Laid BY PROGRAM, IN A SANDBOX (cutbox-rows.mjs): the forced cells as the released guide's own fill.sh prints them over the translation 1418d82616b892d2… (all of the seat's roots in one cut). By AI agents, Wed Nov 11 2026. No macro, syntax, notation, axiom, sorry.
-/
import Derived.Test.YtjgafkoboolclaaDoorChecked
import GoSem.Claim
import GoSem.ClaimJoined
import GoSem.ClaimMapViews
import Derived.JoinedTies
import Derived.KernelRfl
namespace Go.Proofs.YtjgafkoboolclaaDoor
/- THE CELL 'sum', in the pinned program and in every row, IS THE sha256 OF THE DUMP (.gsa) THAT YtjgafkoboolclaaDoorProg.lean LOADS. Nothing in Lean hashes anything: it is a label: what it is worth is what the hold of that sum in a sandbox is worth. -/
noncomputable def Tryd.pinned : Pinned := { name := "ytjgafkoboolclaadoor", sum := "1418d82616b892d2bda34058c1725391ef4ad8bb77a4b4563e541930224ec30a", checked := Tryd.checked }
namespace Rows
def none {H : Type} : Left H := { results := [], args := [] }

/- WHAT THE LISTED PACKAGE-LEVEL VARIABLES READ AS WHEN THE CALL BEGINS. Each datum BY PROGRAM (the guide's laid-datum.mjs) off the statement by which the dump's own 'gosem.cut.vars' lays the variable. In a bare row this is a premise. The card (YtjgafkoboolclaaDoorCards.lean) ties it to the program's text. -/
def laid_loop_example_softwareradio_impl_flagBits {H : Type} : DataW H := .agg [.lit (.int .i64 0), .lit (.int .i64 1), .lit (.int .i64 1), .lit (.int .i64 1), .lit (.int .i64 1), .lit (.int .i64 1), .lit (.int .i64 1), .lit (.int .i64 0)]

/-- 'laws.FnExactBuildFrame': WHATEVER THE INPUT: true; the input reads as it did. -/
def fnExactBuildFrameSpec : ChangeSpec := { name := "fnExactBuildFrame", vars := ["loop.example/softwareradio/impl.flagBits"], fn := fun _ => fun
  | [d, g1] => { results := [.lit (.bool true)], args := [d], vars := [g1] }
  | _ => none }
def fnExactBuildFrameRow : OpenClaim := { program := "ytjgafkoboolclaadoor", sum := "1418d82616b892d2bda34058c1725391ef4ad8bb77a4b4563e541930224ec30a", func := "loop.example/softwareradio/laws.FnExactBuildFrame", spec := "fnExactBuildFrame", named := ["loop.example/softwareradio/impl.flagBits"], plainKeys := false, apart := false, laid := [("loop.example/softwareradio/impl.flagBits", laid_loop_example_softwareradio_impl_flagBits)] }
def FnExactBuildFrameSaid : Prop := fnExactBuildFrameRow.holds Tryd.pinned (OpenSpec.ofChange fnExactBuildFrameSpec)

/-- ITS FALSE NEIGHBOUR: 'it returns false'. Refute it at one input. -/
def fnExactBuildFrameWrong : ChangeSpec := { name := "fnExactBuildFrame", vars := ["loop.example/softwareradio/impl.flagBits"], fn := fun _ => fun
  | [d, g1] => { results := [.lit (.bool false)], args := [d], vars := [g1] }
  | _ => none }
def FnExactBuildFrameWrongFalsely : Prop := fnExactBuildFrameRow.holds Tryd.pinned (OpenSpec.ofChange fnExactBuildFrameWrong)

/-- 'laws.FnBuildFrame': WHATEVER THE INPUT: true; the input reads as it did. -/
def fnBuildFrameSpec : ChangeSpec := { name := "fnBuildFrame", vars := ["loop.example/softwareradio/impl.flagBits"], fn := fun _ => fun
  | [d1, d2, g1] => { results := [.lit (.bool true)], args := [d1, d2], vars := [g1] }
  | _ => none }
def fnBuildFrameRow : OpenClaim := { program := "ytjgafkoboolclaadoor", sum := "1418d82616b892d2bda34058c1725391ef4ad8bb77a4b4563e541930224ec30a", func := "loop.example/softwareradio/laws.FnBuildFrame", spec := "fnBuildFrame", named := ["loop.example/softwareradio/impl.flagBits"], plainKeys := false, apart := false, laid := [("loop.example/softwareradio/impl.flagBits", laid_loop_example_softwareradio_impl_flagBits)] }
def FnBuildFrameSaid : Prop := fnBuildFrameRow.holds Tryd.pinned (OpenSpec.ofChange fnBuildFrameSpec)

/-- ITS FALSE NEIGHBOUR: 'it returns false'. Refute it at one input. -/
def fnBuildFrameWrong : ChangeSpec := { name := "fnBuildFrame", vars := ["loop.example/softwareradio/impl.flagBits"], fn := fun _ => fun
  | [d1, d2, g1] => { results := [.lit (.bool false)], args := [d1, d2], vars := [g1] }
  | _ => none }
def FnBuildFrameWrongFalsely : Prop := fnBuildFrameRow.holds Tryd.pinned (OpenSpec.ofChange fnBuildFrameWrong)

/-- 'laws.FnFrameDamaged': WHATEVER THE INPUT: true; the input reads as it did. -/
def fnFrameDamagedSpec : ChangeSpec := { name := "fnFrameDamaged", vars := ["loop.example/softwareradio/impl.flagBits"], fn := fun _ => fun
  | [d1, d2, g1] => { results := [.lit (.bool true)], args := [d1, d2], vars := [g1] }
  | _ => none }
def fnFrameDamagedRow : OpenClaim := { program := "ytjgafkoboolclaadoor", sum := "1418d82616b892d2bda34058c1725391ef4ad8bb77a4b4563e541930224ec30a", func := "loop.example/softwareradio/laws.FnFrameDamaged", spec := "fnFrameDamaged", named := ["loop.example/softwareradio/impl.flagBits"], plainKeys := false, apart := false, laid := [("loop.example/softwareradio/impl.flagBits", laid_loop_example_softwareradio_impl_flagBits)] }
def FnFrameDamagedSaid : Prop := fnFrameDamagedRow.holds Tryd.pinned (OpenSpec.ofChange fnFrameDamagedSpec)

/-- ITS FALSE NEIGHBOUR: 'it returns false'. Refute it at one input. -/
def fnFrameDamagedWrong : ChangeSpec := { name := "fnFrameDamaged", vars := ["loop.example/softwareradio/impl.flagBits"], fn := fun _ => fun
  | [d1, d2, g1] => { results := [.lit (.bool false)], args := [d1, d2], vars := [g1] }
  | _ => none }
def FnFrameDamagedWrongFalsely : Prop := fnFrameDamagedRow.holds Tryd.pinned (OpenSpec.ofChange fnFrameDamagedWrong)

/-- 'laws.FnFindFrames': WHATEVER THE INPUT: true; the input reads as it did. -/
def fnFindFramesSpec : ChangeSpec := { name := "fnFindFrames", vars := ["loop.example/softwareradio/impl.flagBits"], fn := fun _ => fun
  | [d, g1] => { results := [.lit (.bool true)], args := [d], vars := [g1] }
  | _ => none }
def fnFindFramesRow : OpenClaim := { program := "ytjgafkoboolclaadoor", sum := "1418d82616b892d2bda34058c1725391ef4ad8bb77a4b4563e541930224ec30a", func := "loop.example/softwareradio/laws.FnFindFrames", spec := "fnFindFrames", named := ["loop.example/softwareradio/impl.flagBits"], plainKeys := false, apart := false, laid := [("loop.example/softwareradio/impl.flagBits", laid_loop_example_softwareradio_impl_flagBits)] }
def FnFindFramesSaid : Prop := fnFindFramesRow.holds Tryd.pinned (OpenSpec.ofChange fnFindFramesSpec)

/-- ITS FALSE NEIGHBOUR: 'it returns false'. Refute it at one input. -/
def fnFindFramesWrong : ChangeSpec := { name := "fnFindFrames", vars := ["loop.example/softwareradio/impl.flagBits"], fn := fun _ => fun
  | [d, g1] => { results := [.lit (.bool false)], args := [d], vars := [g1] }
  | _ => none }
def FnFindFramesWrongFalsely : Prop := fnFindFramesRow.holds Tryd.pinned (OpenSpec.ofChange fnFindFramesWrong)

/-- 'laws.FnFramedMessage': WHATEVER THE INPUT: true; the input reads as it did. -/
def fnFramedMessageSpec : ChangeSpec := { name := "fnFramedMessage", vars := ["loop.example/softwareradio/impl.flagBits"], fn := fun _ => fun
  | [d, g1] => { results := [.lit (.bool true)], args := [d], vars := [g1] }
  | _ => none }
def fnFramedMessageRow : OpenClaim := { program := "ytjgafkoboolclaadoor", sum := "1418d82616b892d2bda34058c1725391ef4ad8bb77a4b4563e541930224ec30a", func := "loop.example/softwareradio/laws.FnFramedMessage", spec := "fnFramedMessage", named := ["loop.example/softwareradio/impl.flagBits"], plainKeys := false, apart := false, laid := [("loop.example/softwareradio/impl.flagBits", laid_loop_example_softwareradio_impl_flagBits)] }
def FnFramedMessageSaid : Prop := fnFramedMessageRow.holds Tryd.pinned (OpenSpec.ofChange fnFramedMessageSpec)

/-- ITS FALSE NEIGHBOUR: 'it returns false'. Refute it at one input. -/
def fnFramedMessageWrong : ChangeSpec := { name := "fnFramedMessage", vars := ["loop.example/softwareradio/impl.flagBits"], fn := fun _ => fun
  | [d, g1] => { results := [.lit (.bool false)], args := [d], vars := [g1] }
  | _ => none }
def FnFramedMessageWrongFalsely : Prop := fnFramedMessageRow.holds Tryd.pinned (OpenSpec.ofChange fnFramedMessageWrong)

/- THE SECOND FORM. 'bulk': how many values and letters a reading holds, each counted each time it is reached (what is shared counts as often as it is met; a slice's spare places count too). A statement '..UptoSaid' is the law's where the arguments, and the package variables that the reading takes, are together of bulk at most 1048576: NARROWER than '..Said'. Prove '..Said' where nothing that the law and all that it calls make is longer than what came in: it says more and counts as full. Else prove '..UptoSaid'. A law counts once. -/
mutual
def uptoBulk {H : Type} : DataW H → Nat
  | .lit (.string bytes) => bytes.length + 1
  | .lit _ => 1
  | .nil => 1
  | .ptr d => uptoBulk d + 1
  | .slice elems spare => uptoBulkAll elems + uptoBulkAll spare + 1
  | .agg parts => uptoBulkAll parts + 1
  | .iface _ d => uptoBulk d + 1
  | .map entries => uptoBulkEntries entries + 1
  | .held _ => 1
def uptoBulkAll {H : Type} : List (DataW H) → Nat
  | [] => 0
  | d :: r => uptoBulk d + uptoBulkAll r
def uptoBulkEntries {H : Type} : List (Lit × DataW H) → Nat
  | [] => 0
  | x :: r => uptoBulkEntry x + uptoBulkEntries r
def uptoBulkEntry {H : Type} : Lit × DataW H → Nat
  | (.string bytes, d) => bytes.length + uptoBulk d + 1
  | (_, d) => uptoBulk d + 1
 end
def uptoSmall : (H : Type) → List (DataW H) → Bool := fun _ ds => decide (uptoBulkAll ds ≤ 1048576)
def OpenSpec.upto (s : _root_.Go.ChangeSpec) : _root_.Go.OpenSpec := { _root_.Go.OpenSpec.ofChange s with cond := some uptoSmall }

/-- 'laws.FnExactBuildFrame', WHERE WHAT IT READS IS OF BULK AT MOST 1048576: true; the input reads as it did. -/
def fnExactBuildFrameUptoRow : OpenClaim := { program := "ytjgafkoboolclaadoor", sum := "1418d82616b892d2bda34058c1725391ef4ad8bb77a4b4563e541930224ec30a", func := "loop.example/softwareradio/laws.FnExactBuildFrame", spec := "fnExactBuildFrame", named := ["loop.example/softwareradio/impl.flagBits"], plainKeys := false, apart := false, laid := [("loop.example/softwareradio/impl.flagBits", laid_loop_example_softwareradio_impl_flagBits)], narrowed := true }
def FnExactBuildFrameUptoSaid : Prop := fnExactBuildFrameUptoRow.holds Tryd.pinned (OpenSpec.upto fnExactBuildFrameSpec)

/-- 'laws.FnBuildFrame', WHERE WHAT IT READS IS OF BULK AT MOST 1048576: true; the input reads as it did. -/
def fnBuildFrameUptoRow : OpenClaim := { program := "ytjgafkoboolclaadoor", sum := "1418d82616b892d2bda34058c1725391ef4ad8bb77a4b4563e541930224ec30a", func := "loop.example/softwareradio/laws.FnBuildFrame", spec := "fnBuildFrame", named := ["loop.example/softwareradio/impl.flagBits"], plainKeys := false, apart := false, laid := [("loop.example/softwareradio/impl.flagBits", laid_loop_example_softwareradio_impl_flagBits)], narrowed := true }
def FnBuildFrameUptoSaid : Prop := fnBuildFrameUptoRow.holds Tryd.pinned (OpenSpec.upto fnBuildFrameSpec)

/-- 'laws.FnFrameDamaged', WHERE WHAT IT READS IS OF BULK AT MOST 1048576: true; the input reads as it did. -/
def fnFrameDamagedUptoRow : OpenClaim := { program := "ytjgafkoboolclaadoor", sum := "1418d82616b892d2bda34058c1725391ef4ad8bb77a4b4563e541930224ec30a", func := "loop.example/softwareradio/laws.FnFrameDamaged", spec := "fnFrameDamaged", named := ["loop.example/softwareradio/impl.flagBits"], plainKeys := false, apart := false, laid := [("loop.example/softwareradio/impl.flagBits", laid_loop_example_softwareradio_impl_flagBits)], narrowed := true }
def FnFrameDamagedUptoSaid : Prop := fnFrameDamagedUptoRow.holds Tryd.pinned (OpenSpec.upto fnFrameDamagedSpec)

/-- 'laws.FnFindFrames', WHERE WHAT IT READS IS OF BULK AT MOST 1048576: true; the input reads as it did. -/
def fnFindFramesUptoRow : OpenClaim := { program := "ytjgafkoboolclaadoor", sum := "1418d82616b892d2bda34058c1725391ef4ad8bb77a4b4563e541930224ec30a", func := "loop.example/softwareradio/laws.FnFindFrames", spec := "fnFindFrames", named := ["loop.example/softwareradio/impl.flagBits"], plainKeys := false, apart := false, laid := [("loop.example/softwareradio/impl.flagBits", laid_loop_example_softwareradio_impl_flagBits)], narrowed := true }
def FnFindFramesUptoSaid : Prop := fnFindFramesUptoRow.holds Tryd.pinned (OpenSpec.upto fnFindFramesSpec)

/-- 'laws.FnFramedMessage', WHERE WHAT IT READS IS OF BULK AT MOST 1048576: true; the input reads as it did. -/
def fnFramedMessageUptoRow : OpenClaim := { program := "ytjgafkoboolclaadoor", sum := "1418d82616b892d2bda34058c1725391ef4ad8bb77a4b4563e541930224ec30a", func := "loop.example/softwareradio/laws.FnFramedMessage", spec := "fnFramedMessage", named := ["loop.example/softwareradio/impl.flagBits"], plainKeys := false, apart := false, laid := [("loop.example/softwareradio/impl.flagBits", laid_loop_example_softwareradio_impl_flagBits)], narrowed := true }
def FnFramedMessageUptoSaid : Prop := fnFramedMessageUptoRow.holds Tryd.pinned (OpenSpec.upto fnFramedMessageSpec)

end Rows
end Go.Proofs.YtjgafkoboolclaaDoor
