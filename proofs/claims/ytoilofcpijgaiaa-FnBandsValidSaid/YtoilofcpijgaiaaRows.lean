/-
  No cell of these rows narrows 'for every input' (looked for: loops, veiled, ifaces, maps, wideKeys, modest, calm, conditions, laid).
  DERIVED. THE GIVEN ROWS OF THIS SEAT. 11 by the template 'for every input the law returns true; each argument reads behind the call as it read before'; 0 by the template 'total and deterministic' (their statements: YtoilofcpijgaiaaTotals.lean).
  GIVEN WITH THE SEED: the statements are not yours to turn. If you find one false, say at which input.
  Laid BY PROGRAM, IN A SANDBOX (cutbox-rows.mjs): the forced cells as the released guide's own fill.sh prints them over the translation 3e69cc65b6d123c5… (all of the seat's roots in one cut). By AI agents, Wed Nov 11 2026. No macro, syntax, notation, axiom, sorry.
-/
import Derived.Test.YtoilofcpijgaiaaChecked
import GoSem.Claim
import GoSem.ClaimJoined
import GoSem.ClaimMapViews
import Derived.JoinedTies
import Derived.KernelRfl
namespace Go.Proofs.Ytoilofcpijgaiaa
/- THE CELL 'sum', in the pinned program and in every row, IS THE sha256 OF THE DUMP (.gsa) THAT YtoilofcpijgaiaaProg.lean LOADS. Nothing in Lean hashes anything: it is a label: what it is worth is what the hold of that sum in a sandbox is worth. -/
noncomputable def Try.pinned : Pinned := { name := "ytoilofcpijgaiaa", sum := "3e69cc65b6d123c5735b6d95dfdda5b670181ef7b8aae60583cf619a04dcc6c4", checked := Try.checked }
namespace Rows
def none {H : Type} : Left H := { results := [], args := [] }

/-- 'laws.FnCountHandovers': WHATEVER THE INPUT: true; the input reads as it did. -/
def fnCountHandoversSpec : ChangeSpec := { name := "fnCountHandovers", fn := fun _ => fun
  | [d] => { results := [.lit (.bool true)], args := [d] }
  | _ => none }
def fnCountHandoversRow : OpenClaim := { program := "ytoilofcpijgaiaa", sum := "3e69cc65b6d123c5735b6d95dfdda5b670181ef7b8aae60583cf619a04dcc6c4", func := "loop.example/softwareradio/laws.FnCountHandovers", spec := "fnCountHandovers", apart := false }
def FnCountHandoversSaid : Prop := fnCountHandoversRow.holds Try.pinned (OpenSpec.ofChange fnCountHandoversSpec)

/-- ITS FALSE NEIGHBOUR: 'it returns false'. Refute it at one input. -/
def fnCountHandoversWrong : ChangeSpec := { name := "fnCountHandovers", fn := fun _ => fun
  | [d] => { results := [.lit (.bool false)], args := [d] }
  | _ => none }
def FnCountHandoversWrongFalsely : Prop := fnCountHandoversRow.holds Try.pinned (OpenSpec.ofChange fnCountHandoversWrong)

/-- 'laws.FnExactServeCell': WHATEVER THE INPUT: true; the input reads as it did. -/
def fnExactServeCellSpec : ChangeSpec := { name := "fnExactServeCell", fn := fun _ => fun
  | [d1, d2, d3] => { results := [.lit (.bool true)], args := [d1, d2, d3] }
  | _ => none }
def fnExactServeCellRow : OpenClaim := { program := "ytoilofcpijgaiaa", sum := "3e69cc65b6d123c5735b6d95dfdda5b670181ef7b8aae60583cf619a04dcc6c4", func := "loop.example/softwareradio/laws.FnExactServeCell", spec := "fnExactServeCell", apart := false }
def FnExactServeCellSaid : Prop := fnExactServeCellRow.holds Try.pinned (OpenSpec.ofChange fnExactServeCellSpec)

/-- ITS FALSE NEIGHBOUR: 'it returns false'. Refute it at one input. -/
def fnExactServeCellWrong : ChangeSpec := { name := "fnExactServeCell", fn := fun _ => fun
  | [d1, d2, d3] => { results := [.lit (.bool false)], args := [d1, d2, d3] }
  | _ => none }
def FnExactServeCellWrongFalsely : Prop := fnExactServeCellRow.holds Try.pinned (OpenSpec.ofChange fnExactServeCellWrong)

/-- 'laws.FnServeCell': WHATEVER THE INPUT: true; the input reads as it did. -/
def fnServeCellSpec : ChangeSpec := { name := "fnServeCell", fn := fun _ => fun
  | [d] => { results := [.lit (.bool true)], args := [d] }
  | _ => none }
def fnServeCellRow : OpenClaim := { program := "ytoilofcpijgaiaa", sum := "3e69cc65b6d123c5735b6d95dfdda5b670181ef7b8aae60583cf619a04dcc6c4", func := "loop.example/softwareradio/laws.FnServeCell", spec := "fnServeCell", apart := false }
def FnServeCellSaid : Prop := fnServeCellRow.holds Try.pinned (OpenSpec.ofChange fnServeCellSpec)

/-- ITS FALSE NEIGHBOUR: 'it returns false'. Refute it at one input. -/
def fnServeCellWrong : ChangeSpec := { name := "fnServeCell", fn := fun _ => fun
  | [d] => { results := [.lit (.bool false)], args := [d] }
  | _ => none }
def FnServeCellWrongFalsely : Prop := fnServeCellRow.holds Try.pinned (OpenSpec.ofChange fnServeCellWrong)

/-- 'laws.FnExactServeTrace': WHATEVER THE INPUT: true; the input reads as it did. -/
def fnExactServeTraceSpec : ChangeSpec := { name := "fnExactServeTrace", fn := fun _ => fun
  | [d1, d2] => { results := [.lit (.bool true)], args := [d1, d2] }
  | _ => none }
def fnExactServeTraceRow : OpenClaim := { program := "ytoilofcpijgaiaa", sum := "3e69cc65b6d123c5735b6d95dfdda5b670181ef7b8aae60583cf619a04dcc6c4", func := "loop.example/softwareradio/laws.FnExactServeTrace", spec := "fnExactServeTrace", apart := false }
def FnExactServeTraceSaid : Prop := fnExactServeTraceRow.holds Try.pinned (OpenSpec.ofChange fnExactServeTraceSpec)

/-- ITS FALSE NEIGHBOUR: 'it returns false'. Refute it at one input. -/
def fnExactServeTraceWrong : ChangeSpec := { name := "fnExactServeTrace", fn := fun _ => fun
  | [d1, d2] => { results := [.lit (.bool false)], args := [d1, d2] }
  | _ => none }
def FnExactServeTraceWrongFalsely : Prop := fnExactServeTraceRow.holds Try.pinned (OpenSpec.ofChange fnExactServeTraceWrong)

/-- 'laws.FnServeTrace': WHATEVER THE INPUT: true; the input reads as it did. -/
def fnServeTraceSpec : ChangeSpec := { name := "fnServeTrace", fn := fun _ => fun
  | [d] => { results := [.lit (.bool true)], args := [d] }
  | _ => none }
def fnServeTraceRow : OpenClaim := { program := "ytoilofcpijgaiaa", sum := "3e69cc65b6d123c5735b6d95dfdda5b670181ef7b8aae60583cf619a04dcc6c4", func := "loop.example/softwareradio/laws.FnServeTrace", spec := "fnServeTrace", apart := false }
def FnServeTraceSaid : Prop := fnServeTraceRow.holds Try.pinned (OpenSpec.ofChange fnServeTraceSpec)

/-- ITS FALSE NEIGHBOUR: 'it returns false'. Refute it at one input. -/
def fnServeTraceWrong : ChangeSpec := { name := "fnServeTrace", fn := fun _ => fun
  | [d] => { results := [.lit (.bool false)], args := [d] }
  | _ => none }
def FnServeTraceWrongFalsely : Prop := fnServeTraceRow.holds Try.pinned (OpenSpec.ofChange fnServeTraceWrong)

/-- 'laws.FnBandsValid': WHATEVER THE INPUT: true; the input reads as it did. -/
def fnBandsValidSpec : ChangeSpec := { name := "fnBandsValid", fn := fun _ => fun
  | [d] => { results := [.lit (.bool true)], args := [d] }
  | _ => none }
def fnBandsValidRow : OpenClaim := { program := "ytoilofcpijgaiaa", sum := "3e69cc65b6d123c5735b6d95dfdda5b670181ef7b8aae60583cf619a04dcc6c4", func := "loop.example/softwareradio/laws.FnBandsValid", spec := "fnBandsValid", apart := false }
def FnBandsValidSaid : Prop := fnBandsValidRow.holds Try.pinned (OpenSpec.ofChange fnBandsValidSpec)

/-- ITS FALSE NEIGHBOUR: 'it returns false'. Refute it at one input. -/
def fnBandsValidWrong : ChangeSpec := { name := "fnBandsValid", fn := fun _ => fun
  | [d] => { results := [.lit (.bool false)], args := [d] }
  | _ => none }
def FnBandsValidWrongFalsely : Prop := fnBandsValidRow.holds Try.pinned (OpenSpec.ofChange fnBandsValidWrong)

/-- 'laws.FnExactFreeBands': WHATEVER THE INPUT: true; the input reads as it did. -/
def fnExactFreeBandsSpec : ChangeSpec := { name := "fnExactFreeBands", fn := fun _ => fun
  | [d1, d2, d3] => { results := [.lit (.bool true)], args := [d1, d2, d3] }
  | _ => none }
def fnExactFreeBandsRow : OpenClaim := { program := "ytoilofcpijgaiaa", sum := "3e69cc65b6d123c5735b6d95dfdda5b670181ef7b8aae60583cf619a04dcc6c4", func := "loop.example/softwareradio/laws.FnExactFreeBands", spec := "fnExactFreeBands", unfollowed := true, recurses := true, apart := false }
def FnExactFreeBandsSaid : Prop := fnExactFreeBandsRow.holds Try.pinned (OpenSpec.ofChange fnExactFreeBandsSpec)

/-- ITS FALSE NEIGHBOUR: 'it returns false'. Refute it at one input. -/
def fnExactFreeBandsWrong : ChangeSpec := { name := "fnExactFreeBands", fn := fun _ => fun
  | [d1, d2, d3] => { results := [.lit (.bool false)], args := [d1, d2, d3] }
  | _ => none }
def FnExactFreeBandsWrongFalsely : Prop := fnExactFreeBandsRow.holds Try.pinned (OpenSpec.ofChange fnExactFreeBandsWrong)

/-- 'laws.FnFreeBands': WHATEVER THE INPUT: true; the input reads as it did. -/
def fnFreeBandsSpec : ChangeSpec := { name := "fnFreeBands", fn := fun _ => fun
  | [d] => { results := [.lit (.bool true)], args := [d] }
  | _ => none }
def fnFreeBandsRow : OpenClaim := { program := "ytoilofcpijgaiaa", sum := "3e69cc65b6d123c5735b6d95dfdda5b670181ef7b8aae60583cf619a04dcc6c4", func := "loop.example/softwareradio/laws.FnFreeBands", spec := "fnFreeBands", unfollowed := true, recurses := true, apart := false }
def FnFreeBandsSaid : Prop := fnFreeBandsRow.holds Try.pinned (OpenSpec.ofChange fnFreeBandsSpec)

/-- ITS FALSE NEIGHBOUR: 'it returns false'. Refute it at one input. -/
def fnFreeBandsWrong : ChangeSpec := { name := "fnFreeBands", fn := fun _ => fun
  | [d] => { results := [.lit (.bool false)], args := [d] }
  | _ => none }
def FnFreeBandsWrongFalsely : Prop := fnFreeBandsRow.holds Try.pinned (OpenSpec.ofChange fnFreeBandsWrong)

/-- 'laws.FnExactAssignBands': WHATEVER THE INPUT: true; the input reads as it did. -/
def fnExactAssignBandsSpec : ChangeSpec := { name := "fnExactAssignBands", fn := fun _ => fun
  | [d1, d2] => { results := [.lit (.bool true)], args := [d1, d2] }
  | _ => none }
def fnExactAssignBandsRow : OpenClaim := { program := "ytoilofcpijgaiaa", sum := "3e69cc65b6d123c5735b6d95dfdda5b670181ef7b8aae60583cf619a04dcc6c4", func := "loop.example/softwareradio/laws.FnExactAssignBands", spec := "fnExactAssignBands", apart := false }
def FnExactAssignBandsSaid : Prop := fnExactAssignBandsRow.holds Try.pinned (OpenSpec.ofChange fnExactAssignBandsSpec)

/-- ITS FALSE NEIGHBOUR: 'it returns false'. Refute it at one input. -/
def fnExactAssignBandsWrong : ChangeSpec := { name := "fnExactAssignBands", fn := fun _ => fun
  | [d1, d2] => { results := [.lit (.bool false)], args := [d1, d2] }
  | _ => none }
def FnExactAssignBandsWrongFalsely : Prop := fnExactAssignBandsRow.holds Try.pinned (OpenSpec.ofChange fnExactAssignBandsWrong)

/-- 'laws.FnAssignBands': WHATEVER THE INPUT: true; the input reads as it did. -/
def fnAssignBandsSpec : ChangeSpec := { name := "fnAssignBands", fn := fun _ => fun
  | [d] => { results := [.lit (.bool true)], args := [d] }
  | _ => none }
def fnAssignBandsRow : OpenClaim := { program := "ytoilofcpijgaiaa", sum := "3e69cc65b6d123c5735b6d95dfdda5b670181ef7b8aae60583cf619a04dcc6c4", func := "loop.example/softwareradio/laws.FnAssignBands", spec := "fnAssignBands", apart := false }
def FnAssignBandsSaid : Prop := fnAssignBandsRow.holds Try.pinned (OpenSpec.ofChange fnAssignBandsSpec)

/-- ITS FALSE NEIGHBOUR: 'it returns false'. Refute it at one input. -/
def fnAssignBandsWrong : ChangeSpec := { name := "fnAssignBands", fn := fun _ => fun
  | [d] => { results := [.lit (.bool false)], args := [d] }
  | _ => none }
def FnAssignBandsWrongFalsely : Prop := fnAssignBandsRow.holds Try.pinned (OpenSpec.ofChange fnAssignBandsWrong)

/-- 'laws.FnBandsFull': WHATEVER THE INPUT: true; the input reads as it did. -/
def fnBandsFullSpec : ChangeSpec := { name := "fnBandsFull", fn := fun _ => fun
  | [d] => { results := [.lit (.bool true)], args := [d] }
  | _ => none }
def fnBandsFullRow : OpenClaim := { program := "ytoilofcpijgaiaa", sum := "3e69cc65b6d123c5735b6d95dfdda5b670181ef7b8aae60583cf619a04dcc6c4", func := "loop.example/softwareradio/laws.FnBandsFull", spec := "fnBandsFull", apart := false }
def FnBandsFullSaid : Prop := fnBandsFullRow.holds Try.pinned (OpenSpec.ofChange fnBandsFullSpec)

/-- ITS FALSE NEIGHBOUR: 'it returns false'. Refute it at one input. -/
def fnBandsFullWrong : ChangeSpec := { name := "fnBandsFull", fn := fun _ => fun
  | [d] => { results := [.lit (.bool false)], args := [d] }
  | _ => none }
def FnBandsFullWrongFalsely : Prop := fnBandsFullRow.holds Try.pinned (OpenSpec.ofChange fnBandsFullWrong)

/- THE SECOND FORM. 'bulk': how many values and letters a reading holds, each counted each time it is reached (what is shared counts as often as it is met; a slice's spare places count too). A statement '..UptoSaid' is the law's where the arguments, and the package variables that the reading takes, are together of bulk at most 1048576: NARROWER than '..Said'. Prove '..Said' where nothing that the law and all that it calls make is longer than what came in: it says more and counts as full. Else prove '..UptoSaid'. A law counts once. -/
mutual
def uptoBulk {H : Type} : DataW H → Nat
  | .lit (.string bytes) => bytes.length + 1
  | .lit _ => 1
  | .nil => 1
  | .ptr d => uptoBulk d + 1
  | .slice elems spare => uptoBulkAll elems + uptoBulkAll spare + 1
  | .agg parts => uptoBulkAll parts + 1
  | .iface _ d => uptoBulk d + 1
  | .map entries => uptoBulkEntries entries + 1
  | .held _ => 1
def uptoBulkAll {H : Type} : List (DataW H) → Nat
  | [] => 0
  | d :: r => uptoBulk d + uptoBulkAll r
def uptoBulkEntries {H : Type} : List (Lit × DataW H) → Nat
  | [] => 0
  | x :: r => uptoBulkEntry x + uptoBulkEntries r
def uptoBulkEntry {H : Type} : Lit × DataW H → Nat
  | (.string bytes, d) => bytes.length + uptoBulk d + 1
  | (_, d) => uptoBulk d + 1
 end
def uptoSmall : (H : Type) → List (DataW H) → Bool := fun _ ds => decide (uptoBulkAll ds ≤ 1048576)
def OpenSpec.upto (s : _root_.Go.ChangeSpec) : _root_.Go.OpenSpec := { _root_.Go.OpenSpec.ofChange s with cond := some uptoSmall }

/-- 'laws.FnCountHandovers', WHERE WHAT IT READS IS OF BULK AT MOST 1048576: true; the input reads as it did. -/
def fnCountHandoversUptoRow : OpenClaim := { program := "ytoilofcpijgaiaa", sum := "3e69cc65b6d123c5735b6d95dfdda5b670181ef7b8aae60583cf619a04dcc6c4", func := "loop.example/softwareradio/laws.FnCountHandovers", spec := "fnCountHandovers", apart := false, narrowed := true }
def FnCountHandoversUptoSaid : Prop := fnCountHandoversUptoRow.holds Try.pinned (OpenSpec.upto fnCountHandoversSpec)

/-- 'laws.FnExactServeCell', WHERE WHAT IT READS IS OF BULK AT MOST 1048576: true; the input reads as it did. -/
def fnExactServeCellUptoRow : OpenClaim := { program := "ytoilofcpijgaiaa", sum := "3e69cc65b6d123c5735b6d95dfdda5b670181ef7b8aae60583cf619a04dcc6c4", func := "loop.example/softwareradio/laws.FnExactServeCell", spec := "fnExactServeCell", apart := false, narrowed := true }
def FnExactServeCellUptoSaid : Prop := fnExactServeCellUptoRow.holds Try.pinned (OpenSpec.upto fnExactServeCellSpec)

/-- 'laws.FnServeCell', WHERE WHAT IT READS IS OF BULK AT MOST 1048576: true; the input reads as it did. -/
def fnServeCellUptoRow : OpenClaim := { program := "ytoilofcpijgaiaa", sum := "3e69cc65b6d123c5735b6d95dfdda5b670181ef7b8aae60583cf619a04dcc6c4", func := "loop.example/softwareradio/laws.FnServeCell", spec := "fnServeCell", apart := false, narrowed := true }
def FnServeCellUptoSaid : Prop := fnServeCellUptoRow.holds Try.pinned (OpenSpec.upto fnServeCellSpec)

/-- 'laws.FnExactServeTrace', WHERE WHAT IT READS IS OF BULK AT MOST 1048576: true; the input reads as it did. -/
def fnExactServeTraceUptoRow : OpenClaim := { program := "ytoilofcpijgaiaa", sum := "3e69cc65b6d123c5735b6d95dfdda5b670181ef7b8aae60583cf619a04dcc6c4", func := "loop.example/softwareradio/laws.FnExactServeTrace", spec := "fnExactServeTrace", apart := false, narrowed := true }
def FnExactServeTraceUptoSaid : Prop := fnExactServeTraceUptoRow.holds Try.pinned (OpenSpec.upto fnExactServeTraceSpec)

/-- 'laws.FnServeTrace', WHERE WHAT IT READS IS OF BULK AT MOST 1048576: true; the input reads as it did. -/
def fnServeTraceUptoRow : OpenClaim := { program := "ytoilofcpijgaiaa", sum := "3e69cc65b6d123c5735b6d95dfdda5b670181ef7b8aae60583cf619a04dcc6c4", func := "loop.example/softwareradio/laws.FnServeTrace", spec := "fnServeTrace", apart := false, narrowed := true }
def FnServeTraceUptoSaid : Prop := fnServeTraceUptoRow.holds Try.pinned (OpenSpec.upto fnServeTraceSpec)

/-- 'laws.FnBandsValid', WHERE WHAT IT READS IS OF BULK AT MOST 1048576: true; the input reads as it did. -/
def fnBandsValidUptoRow : OpenClaim := { program := "ytoilofcpijgaiaa", sum := "3e69cc65b6d123c5735b6d95dfdda5b670181ef7b8aae60583cf619a04dcc6c4", func := "loop.example/softwareradio/laws.FnBandsValid", spec := "fnBandsValid", apart := false, narrowed := true }
def FnBandsValidUptoSaid : Prop := fnBandsValidUptoRow.holds Try.pinned (OpenSpec.upto fnBandsValidSpec)

/-- 'laws.FnExactFreeBands', WHERE WHAT IT READS IS OF BULK AT MOST 1048576: true; the input reads as it did. -/
def fnExactFreeBandsUptoRow : OpenClaim := { program := "ytoilofcpijgaiaa", sum := "3e69cc65b6d123c5735b6d95dfdda5b670181ef7b8aae60583cf619a04dcc6c4", func := "loop.example/softwareradio/laws.FnExactFreeBands", spec := "fnExactFreeBands", unfollowed := true, recurses := true, apart := false, narrowed := true }
def FnExactFreeBandsUptoSaid : Prop := fnExactFreeBandsUptoRow.holds Try.pinned (OpenSpec.upto fnExactFreeBandsSpec)

/-- 'laws.FnFreeBands', WHERE WHAT IT READS IS OF BULK AT MOST 1048576: true; the input reads as it did. -/
def fnFreeBandsUptoRow : OpenClaim := { program := "ytoilofcpijgaiaa", sum := "3e69cc65b6d123c5735b6d95dfdda5b670181ef7b8aae60583cf619a04dcc6c4", func := "loop.example/softwareradio/laws.FnFreeBands", spec := "fnFreeBands", unfollowed := true, recurses := true, apart := false, narrowed := true }
def FnFreeBandsUptoSaid : Prop := fnFreeBandsUptoRow.holds Try.pinned (OpenSpec.upto fnFreeBandsSpec)

/-- 'laws.FnExactAssignBands', WHERE WHAT IT READS IS OF BULK AT MOST 1048576: true; the input reads as it did. -/
def fnExactAssignBandsUptoRow : OpenClaim := { program := "ytoilofcpijgaiaa", sum := "3e69cc65b6d123c5735b6d95dfdda5b670181ef7b8aae60583cf619a04dcc6c4", func := "loop.example/softwareradio/laws.FnExactAssignBands", spec := "fnExactAssignBands", apart := false, narrowed := true }
def FnExactAssignBandsUptoSaid : Prop := fnExactAssignBandsUptoRow.holds Try.pinned (OpenSpec.upto fnExactAssignBandsSpec)

/-- 'laws.FnAssignBands', WHERE WHAT IT READS IS OF BULK AT MOST 1048576: true; the input reads as it did. -/
def fnAssignBandsUptoRow : OpenClaim := { program := "ytoilofcpijgaiaa", sum := "3e69cc65b6d123c5735b6d95dfdda5b670181ef7b8aae60583cf619a04dcc6c4", func := "loop.example/softwareradio/laws.FnAssignBands", spec := "fnAssignBands", apart := false, narrowed := true }
def FnAssignBandsUptoSaid : Prop := fnAssignBandsUptoRow.holds Try.pinned (OpenSpec.upto fnAssignBandsSpec)

/-- 'laws.FnBandsFull', WHERE WHAT IT READS IS OF BULK AT MOST 1048576: true; the input reads as it did. -/
def fnBandsFullUptoRow : OpenClaim := { program := "ytoilofcpijgaiaa", sum := "3e69cc65b6d123c5735b6d95dfdda5b670181ef7b8aae60583cf619a04dcc6c4", func := "loop.example/softwareradio/laws.FnBandsFull", spec := "fnBandsFull", apart := false, narrowed := true }
def FnBandsFullUptoSaid : Prop := fnBandsFullUptoRow.holds Try.pinned (OpenSpec.upto fnBandsFullSpec)

end Rows
end Go.Proofs.Ytoilofcpijgaiaa
