/-
  No cell of these rows narrows 'for every input' (looked for: loops, veiled, ifaces, maps, wideKeys, modest, calm, conditions, laid).
  DERIVED. THE GIVEN ROWS OF THIS SEAT. 10 by the template 'for every input the law returns true; each argument reads behind the call as it read before'; 0 by the template 'total and deterministic' (their statements: YtdfinlpfkmmpkaaTotals.lean).
  GIVEN WITH THE SEED: the statements are not yours to turn. If you find one false, say at which input.
  Laid BY PROGRAM, IN A SANDBOX (cutbox-rows.mjs): the forced cells as the released guide's own fill.sh prints them over the translation 105afa5fe23e4336… (all of the seat's roots in one cut). By AI agents, Wed Nov 11 2026. No macro, syntax, notation, axiom, sorry.
-/
import Derived.Test.YtdfinlpfkmmpkaaChecked
import GoSem.Claim
import GoSem.ClaimJoined
import GoSem.ClaimMapViews
import Derived.JoinedTies
import Derived.KernelRfl
namespace Go.Proofs.Ytdfinlpfkmmpkaa
/- THE CELL 'sum', in the pinned program and in every row, IS THE sha256 OF THE DUMP (.gsa) THAT YtdfinlpfkmmpkaaProg.lean LOADS. Nothing in Lean hashes anything: it is a label: what it is worth is what the hold of that sum in a sandbox is worth. -/
noncomputable def Try.pinned : Pinned := { name := "ytdfinlpfkmmpkaa", sum := "105afa5fe23e4336f734e5d96eca3ab6971676c9fb4e44066d14f4ecd52e752a", checked := Try.checked }
namespace Rows
def none {H : Type} : Left H := { results := [], args := [] }

/-- 'laws.FnExactNextStation': WHATEVER THE INPUT: true; the input reads as it did. -/
def fnExactNextStationSpec : ChangeSpec := { name := "fnExactNextStation", fn := fun _ => fun
  | [d1, d2, d3] => { results := [.lit (.bool true)], args := [d1, d2, d3] }
  | _ => none }
def fnExactNextStationRow : OpenClaim := { program := "ytdfinlpfkmmpkaa", sum := "105afa5fe23e4336f734e5d96eca3ab6971676c9fb4e44066d14f4ecd52e752a", func := "loop.example/softwareradio/laws.FnExactNextStation", spec := "fnExactNextStation", unfollowed := true, recurses := true, apart := false }
def FnExactNextStationSaid : Prop := fnExactNextStationRow.holds Try.pinned (OpenSpec.ofChange fnExactNextStationSpec)

/-- ITS FALSE NEIGHBOUR: 'it returns false'. Refute it at one input. -/
def fnExactNextStationWrong : ChangeSpec := { name := "fnExactNextStation", fn := fun _ => fun
  | [d1, d2, d3] => { results := [.lit (.bool false)], args := [d1, d2, d3] }
  | _ => none }
def FnExactNextStationWrongFalsely : Prop := fnExactNextStationRow.holds Try.pinned (OpenSpec.ofChange fnExactNextStationWrong)

/-- 'laws.FnExactLeastCosts': WHATEVER THE INPUT: true; the input reads as it did. -/
def fnExactLeastCostsSpec : ChangeSpec := { name := "fnExactLeastCosts", fn := fun _ => fun
  | [d1, d2] => { results := [.lit (.bool true)], args := [d1, d2] }
  | _ => none }
def fnExactLeastCostsRow : OpenClaim := { program := "ytdfinlpfkmmpkaa", sum := "105afa5fe23e4336f734e5d96eca3ab6971676c9fb4e44066d14f4ecd52e752a", func := "loop.example/softwareradio/laws.FnExactLeastCosts", spec := "fnExactLeastCosts", unfollowed := true, recurses := true, apart := false }
def FnExactLeastCostsSaid : Prop := fnExactLeastCostsRow.holds Try.pinned (OpenSpec.ofChange fnExactLeastCostsSpec)

/-- ITS FALSE NEIGHBOUR: 'it returns false'. Refute it at one input. -/
def fnExactLeastCostsWrong : ChangeSpec := { name := "fnExactLeastCosts", fn := fun _ => fun
  | [d1, d2] => { results := [.lit (.bool false)], args := [d1, d2] }
  | _ => none }
def FnExactLeastCostsWrongFalsely : Prop := fnExactLeastCostsRow.holds Try.pinned (OpenSpec.ofChange fnExactLeastCostsWrong)

/-- 'laws.FnCutLink': WHATEVER THE INPUT: true; the input reads as it did. -/
def fnCutLinkSpec : ChangeSpec := { name := "fnCutLink", fn := fun _ => fun
  | [d] => { results := [.lit (.bool true)], args := [d] }
  | _ => none }
def fnCutLinkRow : OpenClaim := { program := "ytdfinlpfkmmpkaa", sum := "105afa5fe23e4336f734e5d96eca3ab6971676c9fb4e44066d14f4ecd52e752a", func := "loop.example/softwareradio/laws.FnCutLink", spec := "fnCutLink", unfollowed := true, recurses := true, apart := false }
def FnCutLinkSaid : Prop := fnCutLinkRow.holds Try.pinned (OpenSpec.ofChange fnCutLinkSpec)

/-- ITS FALSE NEIGHBOUR: 'it returns false'. Refute it at one input. -/
def fnCutLinkWrong : ChangeSpec := { name := "fnCutLink", fn := fun _ => fun
  | [d] => { results := [.lit (.bool false)], args := [d] }
  | _ => none }
def FnCutLinkWrongFalsely : Prop := fnCutLinkRow.holds Try.pinned (OpenSpec.ofChange fnCutLinkWrong)

/-- 'laws.FnLeastCosts': WHATEVER THE INPUT: true; the input reads as it did. -/
def fnLeastCostsSpec : ChangeSpec := { name := "fnLeastCosts", fn := fun _ => fun
  | [d] => { results := [.lit (.bool true)], args := [d] }
  | _ => none }
def fnLeastCostsRow : OpenClaim := { program := "ytdfinlpfkmmpkaa", sum := "105afa5fe23e4336f734e5d96eca3ab6971676c9fb4e44066d14f4ecd52e752a", func := "loop.example/softwareradio/laws.FnLeastCosts", spec := "fnLeastCosts", unfollowed := true, recurses := true, apart := false }
def FnLeastCostsSaid : Prop := fnLeastCostsRow.holds Try.pinned (OpenSpec.ofChange fnLeastCostsSpec)

/-- ITS FALSE NEIGHBOUR: 'it returns false'. Refute it at one input. -/
def fnLeastCostsWrong : ChangeSpec := { name := "fnLeastCosts", fn := fun _ => fun
  | [d] => { results := [.lit (.bool false)], args := [d] }
  | _ => none }
def FnLeastCostsWrongFalsely : Prop := fnLeastCostsRow.holds Try.pinned (OpenSpec.ofChange fnLeastCostsWrong)

/-- 'laws.FnRouteBack': WHATEVER THE INPUT: true; the input reads as it did. -/
def fnRouteBackSpec : ChangeSpec := { name := "fnRouteBack", fn := fun _ => fun
  | [d] => { results := [.lit (.bool true)], args := [d] }
  | _ => none }
def fnRouteBackRow : OpenClaim := { program := "ytdfinlpfkmmpkaa", sum := "105afa5fe23e4336f734e5d96eca3ab6971676c9fb4e44066d14f4ecd52e752a", func := "loop.example/softwareradio/laws.FnRouteBack", spec := "fnRouteBack", unfollowed := true, recurses := true, apart := false }
def FnRouteBackSaid : Prop := fnRouteBackRow.holds Try.pinned (OpenSpec.ofChange fnRouteBackSpec)

/-- ITS FALSE NEIGHBOUR: 'it returns false'. Refute it at one input. -/
def fnRouteBackWrong : ChangeSpec := { name := "fnRouteBack", fn := fun _ => fun
  | [d] => { results := [.lit (.bool false)], args := [d] }
  | _ => none }
def FnRouteBackWrongFalsely : Prop := fnRouteBackRow.holds Try.pinned (OpenSpec.ofChange fnRouteBackWrong)

/-- 'laws.FnNextStation': WHATEVER THE INPUT: true; the input reads as it did. -/
def fnNextStationSpec : ChangeSpec := { name := "fnNextStation", fn := fun _ => fun
  | [d] => { results := [.lit (.bool true)], args := [d] }
  | _ => none }
def fnNextStationRow : OpenClaim := { program := "ytdfinlpfkmmpkaa", sum := "105afa5fe23e4336f734e5d96eca3ab6971676c9fb4e44066d14f4ecd52e752a", func := "loop.example/softwareradio/laws.FnNextStation", spec := "fnNextStation", unfollowed := true, recurses := true, apart := false }
def FnNextStationSaid : Prop := fnNextStationRow.holds Try.pinned (OpenSpec.ofChange fnNextStationSpec)

/-- ITS FALSE NEIGHBOUR: 'it returns false'. Refute it at one input. -/
def fnNextStationWrong : ChangeSpec := { name := "fnNextStation", fn := fun _ => fun
  | [d] => { results := [.lit (.bool false)], args := [d] }
  | _ => none }
def FnNextStationWrongFalsely : Prop := fnNextStationRow.holds Try.pinned (OpenSpec.ofChange fnNextStationWrong)

/-- 'laws.FnExactRouteTo': WHATEVER THE INPUT: true; the input reads as it did. -/
def fnExactRouteToSpec : ChangeSpec := { name := "fnExactRouteTo", fn := fun _ => fun
  | [d1, d2, d3] => { results := [.lit (.bool true)], args := [d1, d2, d3] }
  | _ => none }
def fnExactRouteToRow : OpenClaim := { program := "ytdfinlpfkmmpkaa", sum := "105afa5fe23e4336f734e5d96eca3ab6971676c9fb4e44066d14f4ecd52e752a", func := "loop.example/softwareradio/laws.FnExactRouteTo", spec := "fnExactRouteTo", unfollowed := true, recurses := true, apart := false }
def FnExactRouteToSaid : Prop := fnExactRouteToRow.holds Try.pinned (OpenSpec.ofChange fnExactRouteToSpec)

/-- ITS FALSE NEIGHBOUR: 'it returns false'. Refute it at one input. -/
def fnExactRouteToWrong : ChangeSpec := { name := "fnExactRouteTo", fn := fun _ => fun
  | [d1, d2, d3] => { results := [.lit (.bool false)], args := [d1, d2, d3] }
  | _ => none }
def FnExactRouteToWrongFalsely : Prop := fnExactRouteToRow.holds Try.pinned (OpenSpec.ofChange fnExactRouteToWrong)

/-- 'laws.FnRouteTo': WHATEVER THE INPUT: true; the input reads as it did. -/
def fnRouteToSpec : ChangeSpec := { name := "fnRouteTo", fn := fun _ => fun
  | [d] => { results := [.lit (.bool true)], args := [d] }
  | _ => none }
def fnRouteToRow : OpenClaim := { program := "ytdfinlpfkmmpkaa", sum := "105afa5fe23e4336f734e5d96eca3ab6971676c9fb4e44066d14f4ecd52e752a", func := "loop.example/softwareradio/laws.FnRouteTo", spec := "fnRouteTo", unfollowed := true, recurses := true, apart := false }
def FnRouteToSaid : Prop := fnRouteToRow.holds Try.pinned (OpenSpec.ofChange fnRouteToSpec)

/-- ITS FALSE NEIGHBOUR: 'it returns false'. Refute it at one input. -/
def fnRouteToWrong : ChangeSpec := { name := "fnRouteTo", fn := fun _ => fun
  | [d] => { results := [.lit (.bool false)], args := [d] }
  | _ => none }
def FnRouteToWrongFalsely : Prop := fnRouteToRow.holds Try.pinned (OpenSpec.ofChange fnRouteToWrong)

/-- 'laws.FnAccessOrder': WHATEVER THE INPUT: true; the input reads as it did. -/
def fnAccessOrderSpec : ChangeSpec := { name := "fnAccessOrder", fn := fun _ => fun
  | [d] => { results := [.lit (.bool true)], args := [d] }
  | _ => none }
def fnAccessOrderRow : OpenClaim := { program := "ytdfinlpfkmmpkaa", sum := "105afa5fe23e4336f734e5d96eca3ab6971676c9fb4e44066d14f4ecd52e752a", func := "loop.example/softwareradio/laws.FnAccessOrder", spec := "fnAccessOrder", unfollowed := true, recurses := true, apart := false }
def FnAccessOrderSaid : Prop := fnAccessOrderRow.holds Try.pinned (OpenSpec.ofChange fnAccessOrderSpec)

/-- ITS FALSE NEIGHBOUR: 'it returns false'. Refute it at one input. -/
def fnAccessOrderWrong : ChangeSpec := { name := "fnAccessOrder", fn := fun _ => fun
  | [d] => { results := [.lit (.bool false)], args := [d] }
  | _ => none }
def FnAccessOrderWrongFalsely : Prop := fnAccessOrderRow.holds Try.pinned (OpenSpec.ofChange fnAccessOrderWrong)

/-- 'laws.FnAccessRun': WHATEVER THE INPUT: true; the input reads as it did. -/
def fnAccessRunSpec : ChangeSpec := { name := "fnAccessRun", fn := fun _ => fun
  | [d] => { results := [.lit (.bool true)], args := [d] }
  | _ => none }
def fnAccessRunRow : OpenClaim := { program := "ytdfinlpfkmmpkaa", sum := "105afa5fe23e4336f734e5d96eca3ab6971676c9fb4e44066d14f4ecd52e752a", func := "loop.example/softwareradio/laws.FnAccessRun", spec := "fnAccessRun", unfollowed := true, recurses := true, apart := false }
def FnAccessRunSaid : Prop := fnAccessRunRow.holds Try.pinned (OpenSpec.ofChange fnAccessRunSpec)

/-- ITS FALSE NEIGHBOUR: 'it returns false'. Refute it at one input. -/
def fnAccessRunWrong : ChangeSpec := { name := "fnAccessRun", fn := fun _ => fun
  | [d] => { results := [.lit (.bool false)], args := [d] }
  | _ => none }
def FnAccessRunWrongFalsely : Prop := fnAccessRunRow.holds Try.pinned (OpenSpec.ofChange fnAccessRunWrong)

/- THE SECOND FORM. 'bulk': how many values and letters a reading holds, each counted each time it is reached (what is shared counts as often as it is met; a slice's spare places count too). A statement '..UptoSaid' is the law's where the arguments, and the package variables that the reading takes, are together of bulk at most 1048576: NARROWER than '..Said'. Prove '..Said' where nothing that the law and all that it calls make is longer than what came in: it says more and counts as full. Else prove '..UptoSaid'. A law counts once. -/
mutual
def uptoBulk {H : Type} : DataW H → Nat
  | .lit (.string bytes) => bytes.length + 1
  | .lit _ => 1
  | .nil => 1
  | .ptr d => uptoBulk d + 1
  | .slice elems spare => uptoBulkAll elems + uptoBulkAll spare + 1
  | .agg parts => uptoBulkAll parts + 1
  | .iface _ d => uptoBulk d + 1
  | .map entries => uptoBulkEntries entries + 1
  | .held _ => 1
def uptoBulkAll {H : Type} : List (DataW H) → Nat
  | [] => 0
  | d :: r => uptoBulk d + uptoBulkAll r
def uptoBulkEntries {H : Type} : List (Lit × DataW H) → Nat
  | [] => 0
  | x :: r => uptoBulkEntry x + uptoBulkEntries r
def uptoBulkEntry {H : Type} : Lit × DataW H → Nat
  | (.string bytes, d) => bytes.length + uptoBulk d + 1
  | (_, d) => uptoBulk d + 1
 end
def uptoSmall : (H : Type) → List (DataW H) → Bool := fun _ ds => decide (uptoBulkAll ds ≤ 1048576)
def OpenSpec.upto (s : _root_.Go.ChangeSpec) : _root_.Go.OpenSpec := { _root_.Go.OpenSpec.ofChange s with cond := some uptoSmall }

/-- 'laws.FnExactNextStation', WHERE WHAT IT READS IS OF BULK AT MOST 1048576: true; the input reads as it did. -/
def fnExactNextStationUptoRow : OpenClaim := { program := "ytdfinlpfkmmpkaa", sum := "105afa5fe23e4336f734e5d96eca3ab6971676c9fb4e44066d14f4ecd52e752a", func := "loop.example/softwareradio/laws.FnExactNextStation", spec := "fnExactNextStation", unfollowed := true, recurses := true, apart := false, narrowed := true }
def FnExactNextStationUptoSaid : Prop := fnExactNextStationUptoRow.holds Try.pinned (OpenSpec.upto fnExactNextStationSpec)

/-- 'laws.FnExactLeastCosts', WHERE WHAT IT READS IS OF BULK AT MOST 1048576: true; the input reads as it did. -/
def fnExactLeastCostsUptoRow : OpenClaim := { program := "ytdfinlpfkmmpkaa", sum := "105afa5fe23e4336f734e5d96eca3ab6971676c9fb4e44066d14f4ecd52e752a", func := "loop.example/softwareradio/laws.FnExactLeastCosts", spec := "fnExactLeastCosts", unfollowed := true, recurses := true, apart := false, narrowed := true }
def FnExactLeastCostsUptoSaid : Prop := fnExactLeastCostsUptoRow.holds Try.pinned (OpenSpec.upto fnExactLeastCostsSpec)

/-- 'laws.FnCutLink', WHERE WHAT IT READS IS OF BULK AT MOST 1048576: true; the input reads as it did. -/
def fnCutLinkUptoRow : OpenClaim := { program := "ytdfinlpfkmmpkaa", sum := "105afa5fe23e4336f734e5d96eca3ab6971676c9fb4e44066d14f4ecd52e752a", func := "loop.example/softwareradio/laws.FnCutLink", spec := "fnCutLink", unfollowed := true, recurses := true, apart := false, narrowed := true }
def FnCutLinkUptoSaid : Prop := fnCutLinkUptoRow.holds Try.pinned (OpenSpec.upto fnCutLinkSpec)

/-- 'laws.FnLeastCosts', WHERE WHAT IT READS IS OF BULK AT MOST 1048576: true; the input reads as it did. -/
def fnLeastCostsUptoRow : OpenClaim := { program := "ytdfinlpfkmmpkaa", sum := "105afa5fe23e4336f734e5d96eca3ab6971676c9fb4e44066d14f4ecd52e752a", func := "loop.example/softwareradio/laws.FnLeastCosts", spec := "fnLeastCosts", unfollowed := true, recurses := true, apart := false, narrowed := true }
def FnLeastCostsUptoSaid : Prop := fnLeastCostsUptoRow.holds Try.pinned (OpenSpec.upto fnLeastCostsSpec)

/-- 'laws.FnRouteBack', WHERE WHAT IT READS IS OF BULK AT MOST 1048576: true; the input reads as it did. -/
def fnRouteBackUptoRow : OpenClaim := { program := "ytdfinlpfkmmpkaa", sum := "105afa5fe23e4336f734e5d96eca3ab6971676c9fb4e44066d14f4ecd52e752a", func := "loop.example/softwareradio/laws.FnRouteBack", spec := "fnRouteBack", unfollowed := true, recurses := true, apart := false, narrowed := true }
def FnRouteBackUptoSaid : Prop := fnRouteBackUptoRow.holds Try.pinned (OpenSpec.upto fnRouteBackSpec)

/-- 'laws.FnNextStation', WHERE WHAT IT READS IS OF BULK AT MOST 1048576: true; the input reads as it did. -/
def fnNextStationUptoRow : OpenClaim := { program := "ytdfinlpfkmmpkaa", sum := "105afa5fe23e4336f734e5d96eca3ab6971676c9fb4e44066d14f4ecd52e752a", func := "loop.example/softwareradio/laws.FnNextStation", spec := "fnNextStation", unfollowed := true, recurses := true, apart := false, narrowed := true }
def FnNextStationUptoSaid : Prop := fnNextStationUptoRow.holds Try.pinned (OpenSpec.upto fnNextStationSpec)

/-- 'laws.FnExactRouteTo', WHERE WHAT IT READS IS OF BULK AT MOST 1048576: true; the input reads as it did. -/
def fnExactRouteToUptoRow : OpenClaim := { program := "ytdfinlpfkmmpkaa", sum := "105afa5fe23e4336f734e5d96eca3ab6971676c9fb4e44066d14f4ecd52e752a", func := "loop.example/softwareradio/laws.FnExactRouteTo", spec := "fnExactRouteTo", unfollowed := true, recurses := true, apart := false, narrowed := true }
def FnExactRouteToUptoSaid : Prop := fnExactRouteToUptoRow.holds Try.pinned (OpenSpec.upto fnExactRouteToSpec)

/-- 'laws.FnRouteTo', WHERE WHAT IT READS IS OF BULK AT MOST 1048576: true; the input reads as it did. -/
def fnRouteToUptoRow : OpenClaim := { program := "ytdfinlpfkmmpkaa", sum := "105afa5fe23e4336f734e5d96eca3ab6971676c9fb4e44066d14f4ecd52e752a", func := "loop.example/softwareradio/laws.FnRouteTo", spec := "fnRouteTo", unfollowed := true, recurses := true, apart := false, narrowed := true }
def FnRouteToUptoSaid : Prop := fnRouteToUptoRow.holds Try.pinned (OpenSpec.upto fnRouteToSpec)

/-- 'laws.FnAccessOrder', WHERE WHAT IT READS IS OF BULK AT MOST 1048576: true; the input reads as it did. -/
def fnAccessOrderUptoRow : OpenClaim := { program := "ytdfinlpfkmmpkaa", sum := "105afa5fe23e4336f734e5d96eca3ab6971676c9fb4e44066d14f4ecd52e752a", func := "loop.example/softwareradio/laws.FnAccessOrder", spec := "fnAccessOrder", unfollowed := true, recurses := true, apart := false, narrowed := true }
def FnAccessOrderUptoSaid : Prop := fnAccessOrderUptoRow.holds Try.pinned (OpenSpec.upto fnAccessOrderSpec)

/-- 'laws.FnAccessRun', WHERE WHAT IT READS IS OF BULK AT MOST 1048576: true; the input reads as it did. -/
def fnAccessRunUptoRow : OpenClaim := { program := "ytdfinlpfkmmpkaa", sum := "105afa5fe23e4336f734e5d96eca3ab6971676c9fb4e44066d14f4ecd52e752a", func := "loop.example/softwareradio/laws.FnAccessRun", spec := "fnAccessRun", unfollowed := true, recurses := true, apart := false, narrowed := true }
def FnAccessRunUptoSaid : Prop := fnAccessRunUptoRow.holds Try.pinned (OpenSpec.upto fnAccessRunSpec)

end Rows
end Go.Proofs.Ytdfinlpfkmmpkaa
