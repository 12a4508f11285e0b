/-
  No cell of these rows narrows 'for every input' (looked for: loops, veiled, ifaces, maps, wideKeys, modest, calm, conditions, laid).
  DERIVED. THE GIVEN ROWS OF THIS SEAT. 6 by the template 'for every input the law returns true; each argument reads behind the call as it read before'; 0 by the template 'total and deterministic' (their statements: YtmhlnelnjnhcoaaTotals.lean).
  GIVEN WITH THE SEED: the statements are not yours to turn. If you find one false, say at which input.
  Laid BY PROGRAM, IN A SANDBOX (cutbox-rows.mjs): the forced cells as the released guide's own fill.sh prints them over the translation 228f808a83aaca23… (all of the seat's roots in one cut). By AI agents, Wed Nov 11 2026. No macro, syntax, notation, axiom, sorry.
-/
import Derived.Test.YtmhlnelnjnhcoaaChecked
import GoSem.Claim
import GoSem.ClaimJoined
import GoSem.ClaimMapViews
import Derived.JoinedTies
import Derived.KernelRfl
namespace Go.Proofs.Ytmhlnelnjnhcoaa
/- THE CELL 'sum', in the pinned program and in every row, IS THE sha256 OF THE DUMP (.gsa) THAT YtmhlnelnjnhcoaaProg.lean LOADS. Nothing in Lean hashes anything: it is a label: what it is worth is what the hold of that sum in a sandbox is worth. -/
noncomputable def Try.pinned : Pinned := { name := "ytmhlnelnjnhcoaa", sum := "228f808a83aaca23d5f47fbd249923ca8d4509dbe9f863c716c24fa8f6ca0979", checked := Try.checked }
namespace Rows
def none {H : Type} : Left H := { results := [], args := [] }

/-- 'laws.FnExactSplitMessage': WHATEVER THE INPUT: true; the input reads as it did. -/
def fnExactSplitMessageSpec : ChangeSpec := { name := "fnExactSplitMessage", fn := fun _ => fun
  | [d1, d2, d3] => { results := [.lit (.bool true)], args := [d1, d2, d3] }
  | _ => none }
def fnExactSplitMessageRow : OpenClaim := { program := "ytmhlnelnjnhcoaa", sum := "228f808a83aaca23d5f47fbd249923ca8d4509dbe9f863c716c24fa8f6ca0979", func := "loop.example/softwareradio/laws.FnExactSplitMessage", spec := "fnExactSplitMessage", plainKeys := false, apart := false }
def FnExactSplitMessageSaid : Prop := fnExactSplitMessageRow.holds Try.pinned (OpenSpec.ofChange fnExactSplitMessageSpec)

/-- ITS FALSE NEIGHBOUR: 'it returns false'. Refute it at one input. -/
def fnExactSplitMessageWrong : ChangeSpec := { name := "fnExactSplitMessage", fn := fun _ => fun
  | [d1, d2, d3] => { results := [.lit (.bool false)], args := [d1, d2, d3] }
  | _ => none }
def FnExactSplitMessageWrongFalsely : Prop := fnExactSplitMessageRow.holds Try.pinned (OpenSpec.ofChange fnExactSplitMessageWrong)

/-- 'laws.FnSplitMessage': WHATEVER THE INPUT: true; the input reads as it did. -/
def fnSplitMessageSpec : ChangeSpec := { name := "fnSplitMessage", fn := fun _ => fun
  | [d] => { results := [.lit (.bool true)], args := [d] }
  | _ => none }
def fnSplitMessageRow : OpenClaim := { program := "ytmhlnelnjnhcoaa", sum := "228f808a83aaca23d5f47fbd249923ca8d4509dbe9f863c716c24fa8f6ca0979", func := "loop.example/softwareradio/laws.FnSplitMessage", spec := "fnSplitMessage", plainKeys := false, apart := false }
def FnSplitMessageSaid : Prop := fnSplitMessageRow.holds Try.pinned (OpenSpec.ofChange fnSplitMessageSpec)

/-- ITS FALSE NEIGHBOUR: 'it returns false'. Refute it at one input. -/
def fnSplitMessageWrong : ChangeSpec := { name := "fnSplitMessage", fn := fun _ => fun
  | [d] => { results := [.lit (.bool false)], args := [d] }
  | _ => none }
def FnSplitMessageWrongFalsely : Prop := fnSplitMessageRow.holds Try.pinned (OpenSpec.ofChange fnSplitMessageWrong)

/-- 'laws.FnExactJoinFragments': WHATEVER THE INPUT: true; the input reads as it did. -/
def fnExactJoinFragmentsSpec : ChangeSpec := { name := "fnExactJoinFragments", fn := fun _ => fun
  | [d1, d2] => { results := [.lit (.bool true)], args := [d1, d2] }
  | _ => none }
def fnExactJoinFragmentsRow : OpenClaim := { program := "ytmhlnelnjnhcoaa", sum := "228f808a83aaca23d5f47fbd249923ca8d4509dbe9f863c716c24fa8f6ca0979", func := "loop.example/softwareradio/laws.FnExactJoinFragments", spec := "fnExactJoinFragments", plainKeys := false, apart := false }
def FnExactJoinFragmentsSaid : Prop := fnExactJoinFragmentsRow.holds Try.pinned (OpenSpec.ofChange fnExactJoinFragmentsSpec)

/-- ITS FALSE NEIGHBOUR: 'it returns false'. Refute it at one input. -/
def fnExactJoinFragmentsWrong : ChangeSpec := { name := "fnExactJoinFragments", fn := fun _ => fun
  | [d1, d2] => { results := [.lit (.bool false)], args := [d1, d2] }
  | _ => none }
def FnExactJoinFragmentsWrongFalsely : Prop := fnExactJoinFragmentsRow.holds Try.pinned (OpenSpec.ofChange fnExactJoinFragmentsWrong)

/-- 'laws.FnJoinFragments': WHATEVER THE INPUT: true; the input reads as it did. -/
def fnJoinFragmentsSpec : ChangeSpec := { name := "fnJoinFragments", fn := fun _ => fun
  | [d] => { results := [.lit (.bool true)], args := [d] }
  | _ => none }
def fnJoinFragmentsRow : OpenClaim := { program := "ytmhlnelnjnhcoaa", sum := "228f808a83aaca23d5f47fbd249923ca8d4509dbe9f863c716c24fa8f6ca0979", func := "loop.example/softwareradio/laws.FnJoinFragments", spec := "fnJoinFragments", plainKeys := false, apart := false }
def FnJoinFragmentsSaid : Prop := fnJoinFragmentsRow.holds Try.pinned (OpenSpec.ofChange fnJoinFragmentsSpec)

/-- ITS FALSE NEIGHBOUR: 'it returns false'. Refute it at one input. -/
def fnJoinFragmentsWrong : ChangeSpec := { name := "fnJoinFragments", fn := fun _ => fun
  | [d] => { results := [.lit (.bool false)], args := [d] }
  | _ => none }
def FnJoinFragmentsWrongFalsely : Prop := fnJoinFragmentsRow.holds Try.pinned (OpenSpec.ofChange fnJoinFragmentsWrong)

/-- 'laws.FnExactMissingParts': WHATEVER THE INPUT: true; the input reads as it did. -/
def fnExactMissingPartsSpec : ChangeSpec := { name := "fnExactMissingParts", fn := fun _ => fun
  | [d1, d2] => { results := [.lit (.bool true)], args := [d1, d2] }
  | _ => none }
def fnExactMissingPartsRow : OpenClaim := { program := "ytmhlnelnjnhcoaa", sum := "228f808a83aaca23d5f47fbd249923ca8d4509dbe9f863c716c24fa8f6ca0979", func := "loop.example/softwareradio/laws.FnExactMissingParts", spec := "fnExactMissingParts", plainKeys := false, apart := false }
def FnExactMissingPartsSaid : Prop := fnExactMissingPartsRow.holds Try.pinned (OpenSpec.ofChange fnExactMissingPartsSpec)

/-- ITS FALSE NEIGHBOUR: 'it returns false'. Refute it at one input. -/
def fnExactMissingPartsWrong : ChangeSpec := { name := "fnExactMissingParts", fn := fun _ => fun
  | [d1, d2] => { results := [.lit (.bool false)], args := [d1, d2] }
  | _ => none }
def FnExactMissingPartsWrongFalsely : Prop := fnExactMissingPartsRow.holds Try.pinned (OpenSpec.ofChange fnExactMissingPartsWrong)

/-- 'laws.FnMissingParts': WHATEVER THE INPUT: true; the input reads as it did. -/
def fnMissingPartsSpec : ChangeSpec := { name := "fnMissingParts", fn := fun _ => fun
  | [d] => { results := [.lit (.bool true)], args := [d] }
  | _ => none }
def fnMissingPartsRow : OpenClaim := { program := "ytmhlnelnjnhcoaa", sum := "228f808a83aaca23d5f47fbd249923ca8d4509dbe9f863c716c24fa8f6ca0979", func := "loop.example/softwareradio/laws.FnMissingParts", spec := "fnMissingParts", plainKeys := false, apart := false }
def FnMissingPartsSaid : Prop := fnMissingPartsRow.holds Try.pinned (OpenSpec.ofChange fnMissingPartsSpec)

/-- ITS FALSE NEIGHBOUR: 'it returns false'. Refute it at one input. -/
def fnMissingPartsWrong : ChangeSpec := { name := "fnMissingParts", fn := fun _ => fun
  | [d] => { results := [.lit (.bool false)], args := [d] }
  | _ => none }
def FnMissingPartsWrongFalsely : Prop := fnMissingPartsRow.holds Try.pinned (OpenSpec.ofChange fnMissingPartsWrong)

/- THE SECOND FORM. 'bulk': how many values and letters a reading holds, each counted each time it is reached (what is shared counts as often as it is met; a slice's spare places count too). A statement '..UptoSaid' is the law's where the arguments, and the package variables that the reading takes, are together of bulk at most 1048576: NARROWER than '..Said'. Prove '..Said' where nothing that the law and all that it calls make is longer than what came in: it says more and counts as full. Else prove '..UptoSaid'. A law counts once. -/
mutual
def uptoBulk {H : Type} : DataW H → Nat
  | .lit (.string bytes) => bytes.length + 1
  | .lit _ => 1
  | .nil => 1
  | .ptr d => uptoBulk d + 1
  | .slice elems spare => uptoBulkAll elems + uptoBulkAll spare + 1
  | .agg parts => uptoBulkAll parts + 1
  | .iface _ d => uptoBulk d + 1
  | .map entries => uptoBulkEntries entries + 1
  | .held _ => 1
def uptoBulkAll {H : Type} : List (DataW H) → Nat
  | [] => 0
  | d :: r => uptoBulk d + uptoBulkAll r
def uptoBulkEntries {H : Type} : List (Lit × DataW H) → Nat
  | [] => 0
  | x :: r => uptoBulkEntry x + uptoBulkEntries r
def uptoBulkEntry {H : Type} : Lit × DataW H → Nat
  | (.string bytes, d) => bytes.length + uptoBulk d + 1
  | (_, d) => uptoBulk d + 1
 end
def uptoSmall : (H : Type) → List (DataW H) → Bool := fun _ ds => decide (uptoBulkAll ds ≤ 1048576)
def OpenSpec.upto (s : _root_.Go.ChangeSpec) : _root_.Go.OpenSpec := { _root_.Go.OpenSpec.ofChange s with cond := some uptoSmall }

/-- 'laws.FnExactSplitMessage', WHERE WHAT IT READS IS OF BULK AT MOST 1048576: true; the input reads as it did. -/
def fnExactSplitMessageUptoRow : OpenClaim := { program := "ytmhlnelnjnhcoaa", sum := "228f808a83aaca23d5f47fbd249923ca8d4509dbe9f863c716c24fa8f6ca0979", func := "loop.example/softwareradio/laws.FnExactSplitMessage", spec := "fnExactSplitMessage", plainKeys := false, apart := false, narrowed := true }
def FnExactSplitMessageUptoSaid : Prop := fnExactSplitMessageUptoRow.holds Try.pinned (OpenSpec.upto fnExactSplitMessageSpec)

/-- 'laws.FnSplitMessage', WHERE WHAT IT READS IS OF BULK AT MOST 1048576: true; the input reads as it did. -/
def fnSplitMessageUptoRow : OpenClaim := { program := "ytmhlnelnjnhcoaa", sum := "228f808a83aaca23d5f47fbd249923ca8d4509dbe9f863c716c24fa8f6ca0979", func := "loop.example/softwareradio/laws.FnSplitMessage", spec := "fnSplitMessage", plainKeys := false, apart := false, narrowed := true }
def FnSplitMessageUptoSaid : Prop := fnSplitMessageUptoRow.holds Try.pinned (OpenSpec.upto fnSplitMessageSpec)

/-- 'laws.FnExactJoinFragments', WHERE WHAT IT READS IS OF BULK AT MOST 1048576: true; the input reads as it did. -/
def fnExactJoinFragmentsUptoRow : OpenClaim := { program := "ytmhlnelnjnhcoaa", sum := "228f808a83aaca23d5f47fbd249923ca8d4509dbe9f863c716c24fa8f6ca0979", func := "loop.example/softwareradio/laws.FnExactJoinFragments", spec := "fnExactJoinFragments", plainKeys := false, apart := false, narrowed := true }
def FnExactJoinFragmentsUptoSaid : Prop := fnExactJoinFragmentsUptoRow.holds Try.pinned (OpenSpec.upto fnExactJoinFragmentsSpec)

/-- 'laws.FnJoinFragments', WHERE WHAT IT READS IS OF BULK AT MOST 1048576: true; the input reads as it did. -/
def fnJoinFragmentsUptoRow : OpenClaim := { program := "ytmhlnelnjnhcoaa", sum := "228f808a83aaca23d5f47fbd249923ca8d4509dbe9f863c716c24fa8f6ca0979", func := "loop.example/softwareradio/laws.FnJoinFragments", spec := "fnJoinFragments", plainKeys := false, apart := false, narrowed := true }
def FnJoinFragmentsUptoSaid : Prop := fnJoinFragmentsUptoRow.holds Try.pinned (OpenSpec.upto fnJoinFragmentsSpec)

/-- 'laws.FnExactMissingParts', WHERE WHAT IT READS IS OF BULK AT MOST 1048576: true; the input reads as it did. -/
def fnExactMissingPartsUptoRow : OpenClaim := { program := "ytmhlnelnjnhcoaa", sum := "228f808a83aaca23d5f47fbd249923ca8d4509dbe9f863c716c24fa8f6ca0979", func := "loop.example/softwareradio/laws.FnExactMissingParts", spec := "fnExactMissingParts", plainKeys := false, apart := false, narrowed := true }
def FnExactMissingPartsUptoSaid : Prop := fnExactMissingPartsUptoRow.holds Try.pinned (OpenSpec.upto fnExactMissingPartsSpec)

/-- 'laws.FnMissingParts', WHERE WHAT IT READS IS OF BULK AT MOST 1048576: true; the input reads as it did. -/
def fnMissingPartsUptoRow : OpenClaim := { program := "ytmhlnelnjnhcoaa", sum := "228f808a83aaca23d5f47fbd249923ca8d4509dbe9f863c716c24fa8f6ca0979", func := "loop.example/softwareradio/laws.FnMissingParts", spec := "fnMissingParts", plainKeys := false, apart := false, narrowed := true }
def FnMissingPartsUptoSaid : Prop := fnMissingPartsUptoRow.holds Try.pinned (OpenSpec.upto fnMissingPartsSpec)

end Rows
end Go.Proofs.Ytmhlnelnjnhcoaa
