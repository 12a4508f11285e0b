/-
  No cell of these rows narrows 'for every input' (looked for: loops, veiled, ifaces, maps, wideKeys, modest, calm, conditions, laid).
  DERIVED. THE GIVEN ROWS OF THIS SEAT. 6 by the template 'for every input the law returns true; each argument reads behind the call as it read before'; 0 by the template 'total and deterministic' (their statements: YthgfkfimkaiknaaTotals.lean).
  GIVEN WITH THE SEED: the statements are not yours to turn. If you find one false, say at which input.
  Laid BY PROGRAM, IN A SANDBOX (cutbox-rows.mjs): the forced cells as the released guide's own fill.sh prints them over the translation 99e93595c7b4526a… (all of the seat's roots in one cut). By AI agents, Wed Nov 11 2026. No macro, syntax, notation, axiom, sorry.
-/
import Derived.Test.YthgfkfimkaiknaaChecked
import GoSem.Claim
import GoSem.ClaimJoined
import GoSem.ClaimMapViews
import Derived.JoinedTies
import Derived.KernelRfl
namespace Go.Proofs.Ythgfkfimkaiknaa
/- THE CELL 'sum', in the pinned program and in every row, IS THE sha256 OF THE DUMP (.gsa) THAT YthgfkfimkaiknaaProg.lean LOADS. Nothing in Lean hashes anything: it is a label: what it is worth is what the hold of that sum in a sandbox is worth. -/
noncomputable def Try.pinned : Pinned := { name := "ythgfkfimkaiknaa", sum := "99e93595c7b4526a2d29c1a4fee5d67209deb9538b10d9990cf9a814183b5dfb", checked := Try.checked }
namespace Rows
def none {H : Type} : Left H := { results := [], args := [] }

/-- 'laws.FnExactExchangeValid': WHATEVER THE INPUT: true; the input reads as it did. -/
def fnExactExchangeValidSpec : ChangeSpec := { name := "fnExactExchangeValid", fn := fun _ => fun
  | [d] => { results := [.lit (.bool true)], args := [d] }
  | _ => none }
def fnExactExchangeValidRow : OpenClaim := { program := "ythgfkfimkaiknaa", sum := "99e93595c7b4526a2d29c1a4fee5d67209deb9538b10d9990cf9a814183b5dfb", func := "loop.example/softwareradio/laws.FnExactExchangeValid", spec := "fnExactExchangeValid", apart := false }
def FnExactExchangeValidSaid : Prop := fnExactExchangeValidRow.holds Try.pinned (OpenSpec.ofChange fnExactExchangeValidSpec)

/-- ITS FALSE NEIGHBOUR: 'it returns false'. Refute it at one input. -/
def fnExactExchangeValidWrong : ChangeSpec := { name := "fnExactExchangeValid", fn := fun _ => fun
  | [d] => { results := [.lit (.bool false)], args := [d] }
  | _ => none }
def FnExactExchangeValidWrongFalsely : Prop := fnExactExchangeValidRow.holds Try.pinned (OpenSpec.ofChange fnExactExchangeValidWrong)

/-- 'laws.FnExactExpandVoice': WHATEVER THE INPUT: true; the input reads as it did. -/
def fnExactExpandVoiceSpec : ChangeSpec := { name := "fnExactExpandVoice", fn := fun _ => fun
  | [d] => { results := [.lit (.bool true)], args := [d] }
  | _ => none }
def fnExactExpandVoiceRow : OpenClaim := { program := "ythgfkfimkaiknaa", sum := "99e93595c7b4526a2d29c1a4fee5d67209deb9538b10d9990cf9a814183b5dfb", func := "loop.example/softwareradio/laws.FnExactExpandVoice", spec := "fnExactExpandVoice", apart := false }
def FnExactExpandVoiceSaid : Prop := fnExactExpandVoiceRow.holds Try.pinned (OpenSpec.ofChange fnExactExpandVoiceSpec)

/-- ITS FALSE NEIGHBOUR: 'it returns false'. Refute it at one input. -/
def fnExactExpandVoiceWrong : ChangeSpec := { name := "fnExactExpandVoice", fn := fun _ => fun
  | [d] => { results := [.lit (.bool false)], args := [d] }
  | _ => none }
def FnExactExpandVoiceWrongFalsely : Prop := fnExactExpandVoiceRow.holds Try.pinned (OpenSpec.ofChange fnExactExpandVoiceWrong)

/-- 'laws.FnExactCountHandovers': WHATEVER THE INPUT: true; the input reads as it did. -/
def fnExactCountHandoversSpec : ChangeSpec := { name := "fnExactCountHandovers", fn := fun _ => fun
  | [d] => { results := [.lit (.bool true)], args := [d] }
  | _ => none }
def fnExactCountHandoversRow : OpenClaim := { program := "ythgfkfimkaiknaa", sum := "99e93595c7b4526a2d29c1a4fee5d67209deb9538b10d9990cf9a814183b5dfb", func := "loop.example/softwareradio/laws.FnExactCountHandovers", spec := "fnExactCountHandovers", apart := false }
def FnExactCountHandoversSaid : Prop := fnExactCountHandoversRow.holds Try.pinned (OpenSpec.ofChange fnExactCountHandoversSpec)

/-- ITS FALSE NEIGHBOUR: 'it returns false'. Refute it at one input. -/
def fnExactCountHandoversWrong : ChangeSpec := { name := "fnExactCountHandovers", fn := fun _ => fun
  | [d] => { results := [.lit (.bool false)], args := [d] }
  | _ => none }
def FnExactCountHandoversWrongFalsely : Prop := fnExactCountHandoversRow.holds Try.pinned (OpenSpec.ofChange fnExactCountHandoversWrong)

/-- 'laws.FnExactClockOffset': WHATEVER THE INPUT: true; the input reads as it did. -/
def fnExactClockOffsetSpec : ChangeSpec := { name := "fnExactClockOffset", fn := fun _ => fun
  | [d] => { results := [.lit (.bool true)], args := [d] }
  | _ => none }
def fnExactClockOffsetRow : OpenClaim := { program := "ythgfkfimkaiknaa", sum := "99e93595c7b4526a2d29c1a4fee5d67209deb9538b10d9990cf9a814183b5dfb", func := "loop.example/softwareradio/laws.FnExactClockOffset", spec := "fnExactClockOffset", apart := false }
def FnExactClockOffsetSaid : Prop := fnExactClockOffsetRow.holds Try.pinned (OpenSpec.ofChange fnExactClockOffsetSpec)

/-- ITS FALSE NEIGHBOUR: 'it returns false'. Refute it at one input. -/
def fnExactClockOffsetWrong : ChangeSpec := { name := "fnExactClockOffset", fn := fun _ => fun
  | [d] => { results := [.lit (.bool false)], args := [d] }
  | _ => none }
def FnExactClockOffsetWrongFalsely : Prop := fnExactClockOffsetRow.holds Try.pinned (OpenSpec.ofChange fnExactClockOffsetWrong)

/-- 'laws.FnExactSteerClock': WHATEVER THE INPUT: true; the input reads as it did. -/
def fnExactSteerClockSpec : ChangeSpec := { name := "fnExactSteerClock", fn := fun _ => fun
  | [d1, d2, d3] => { results := [.lit (.bool true)], args := [d1, d2, d3] }
  | _ => none }
def fnExactSteerClockRow : OpenClaim := { program := "ythgfkfimkaiknaa", sum := "99e93595c7b4526a2d29c1a4fee5d67209deb9538b10d9990cf9a814183b5dfb", func := "loop.example/softwareradio/laws.FnExactSteerClock", spec := "fnExactSteerClock", apart := false }
def FnExactSteerClockSaid : Prop := fnExactSteerClockRow.holds Try.pinned (OpenSpec.ofChange fnExactSteerClockSpec)

/-- ITS FALSE NEIGHBOUR: 'it returns false'. Refute it at one input. -/
def fnExactSteerClockWrong : ChangeSpec := { name := "fnExactSteerClock", fn := fun _ => fun
  | [d1, d2, d3] => { results := [.lit (.bool false)], args := [d1, d2, d3] }
  | _ => none }
def FnExactSteerClockWrongFalsely : Prop := fnExactSteerClockRow.holds Try.pinned (OpenSpec.ofChange fnExactSteerClockWrong)

/-- 'laws.FnExactBandsValid': WHATEVER THE INPUT: true; the input reads as it did. -/
def fnExactBandsValidSpec : ChangeSpec := { name := "fnExactBandsValid", fn := fun _ => fun
  | [d] => { results := [.lit (.bool true)], args := [d] }
  | _ => none }
def fnExactBandsValidRow : OpenClaim := { program := "ythgfkfimkaiknaa", sum := "99e93595c7b4526a2d29c1a4fee5d67209deb9538b10d9990cf9a814183b5dfb", func := "loop.example/softwareradio/laws.FnExactBandsValid", spec := "fnExactBandsValid", apart := false }
def FnExactBandsValidSaid : Prop := fnExactBandsValidRow.holds Try.pinned (OpenSpec.ofChange fnExactBandsValidSpec)

/-- ITS FALSE NEIGHBOUR: 'it returns false'. Refute it at one input. -/
def fnExactBandsValidWrong : ChangeSpec := { name := "fnExactBandsValid", fn := fun _ => fun
  | [d] => { results := [.lit (.bool false)], args := [d] }
  | _ => none }
def FnExactBandsValidWrongFalsely : Prop := fnExactBandsValidRow.holds Try.pinned (OpenSpec.ofChange fnExactBandsValidWrong)

/- THE SECOND FORM. 'bulk': how many values and letters a reading holds, each counted each time it is reached (what is shared counts as often as it is met; a slice's spare places count too). A statement '..UptoSaid' is the law's where the arguments, and the package variables that the reading takes, are together of bulk at most 1048576: NARROWER than '..Said'. Prove '..Said' where nothing that the law and all that it calls make is longer than what came in: it says more and counts as full. Else prove '..UptoSaid'. A law counts once. -/
mutual
def uptoBulk {H : Type} : DataW H → Nat
  | .lit (.string bytes) => bytes.length + 1
  | .lit _ => 1
  | .nil => 1
  | .ptr d => uptoBulk d + 1
  | .slice elems spare => uptoBulkAll elems + uptoBulkAll spare + 1
  | .agg parts => uptoBulkAll parts + 1
  | .iface _ d => uptoBulk d + 1
  | .map entries => uptoBulkEntries entries + 1
  | .held _ => 1
def uptoBulkAll {H : Type} : List (DataW H) → Nat
  | [] => 0
  | d :: r => uptoBulk d + uptoBulkAll r
def uptoBulkEntries {H : Type} : List (Lit × DataW H) → Nat
  | [] => 0
  | x :: r => uptoBulkEntry x + uptoBulkEntries r
def uptoBulkEntry {H : Type} : Lit × DataW H → Nat
  | (.string bytes, d) => bytes.length + uptoBulk d + 1
  | (_, d) => uptoBulk d + 1
 end
def uptoSmall : (H : Type) → List (DataW H) → Bool := fun _ ds => decide (uptoBulkAll ds ≤ 1048576)
def OpenSpec.upto (s : _root_.Go.ChangeSpec) : _root_.Go.OpenSpec := { _root_.Go.OpenSpec.ofChange s with cond := some uptoSmall }

/-- 'laws.FnExactExchangeValid', WHERE WHAT IT READS IS OF BULK AT MOST 1048576: true; the input reads as it did. -/
def fnExactExchangeValidUptoRow : OpenClaim := { program := "ythgfkfimkaiknaa", sum := "99e93595c7b4526a2d29c1a4fee5d67209deb9538b10d9990cf9a814183b5dfb", func := "loop.example/softwareradio/laws.FnExactExchangeValid", spec := "fnExactExchangeValid", apart := false, narrowed := true }
def FnExactExchangeValidUptoSaid : Prop := fnExactExchangeValidUptoRow.holds Try.pinned (OpenSpec.upto fnExactExchangeValidSpec)

/-- 'laws.FnExactExpandVoice', WHERE WHAT IT READS IS OF BULK AT MOST 1048576: true; the input reads as it did. -/
def fnExactExpandVoiceUptoRow : OpenClaim := { program := "ythgfkfimkaiknaa", sum := "99e93595c7b4526a2d29c1a4fee5d67209deb9538b10d9990cf9a814183b5dfb", func := "loop.example/softwareradio/laws.FnExactExpandVoice", spec := "fnExactExpandVoice", apart := false, narrowed := true }
def FnExactExpandVoiceUptoSaid : Prop := fnExactExpandVoiceUptoRow.holds Try.pinned (OpenSpec.upto fnExactExpandVoiceSpec)

/-- 'laws.FnExactCountHandovers', WHERE WHAT IT READS IS OF BULK AT MOST 1048576: true; the input reads as it did. -/
def fnExactCountHandoversUptoRow : OpenClaim := { program := "ythgfkfimkaiknaa", sum := "99e93595c7b4526a2d29c1a4fee5d67209deb9538b10d9990cf9a814183b5dfb", func := "loop.example/softwareradio/laws.FnExactCountHandovers", spec := "fnExactCountHandovers", apart := false, narrowed := true }
def FnExactCountHandoversUptoSaid : Prop := fnExactCountHandoversUptoRow.holds Try.pinned (OpenSpec.upto fnExactCountHandoversSpec)

/-- 'laws.FnExactClockOffset', WHERE WHAT IT READS IS OF BULK AT MOST 1048576: true; the input reads as it did. -/
def fnExactClockOffsetUptoRow : OpenClaim := { program := "ythgfkfimkaiknaa", sum := "99e93595c7b4526a2d29c1a4fee5d67209deb9538b10d9990cf9a814183b5dfb", func := "loop.example/softwareradio/laws.FnExactClockOffset", spec := "fnExactClockOffset", apart := false, narrowed := true }
def FnExactClockOffsetUptoSaid : Prop := fnExactClockOffsetUptoRow.holds Try.pinned (OpenSpec.upto fnExactClockOffsetSpec)

/-- 'laws.FnExactSteerClock', WHERE WHAT IT READS IS OF BULK AT MOST 1048576: true; the input reads as it did. -/
def fnExactSteerClockUptoRow : OpenClaim := { program := "ythgfkfimkaiknaa", sum := "99e93595c7b4526a2d29c1a4fee5d67209deb9538b10d9990cf9a814183b5dfb", func := "loop.example/softwareradio/laws.FnExactSteerClock", spec := "fnExactSteerClock", apart := false, narrowed := true }
def FnExactSteerClockUptoSaid : Prop := fnExactSteerClockUptoRow.holds Try.pinned (OpenSpec.upto fnExactSteerClockSpec)

/-- 'laws.FnExactBandsValid', WHERE WHAT IT READS IS OF BULK AT MOST 1048576: true; the input reads as it did. -/
def fnExactBandsValidUptoRow : OpenClaim := { program := "ythgfkfimkaiknaa", sum := "99e93595c7b4526a2d29c1a4fee5d67209deb9538b10d9990cf9a814183b5dfb", func := "loop.example/softwareradio/laws.FnExactBandsValid", spec := "fnExactBandsValid", apart := false, narrowed := true }
def FnExactBandsValidUptoSaid : Prop := fnExactBandsValidUptoRow.holds Try.pinned (OpenSpec.upto fnExactBandsValidSpec)

end Rows
end Go.Proofs.Ythgfkfimkaiknaa
