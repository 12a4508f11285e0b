/-
  No cell of these rows narrows 'for every input' (looked for: loops, veiled, ifaces, maps, wideKeys, modest, calm, conditions, laid).
  DERIVED. THE GIVEN ROWS OF THIS SEAT. 12 by the template 'for every input the law returns true; each argument reads behind the call as it read before'; 0 by the template 'total and deterministic' (their statements: YtfllfbmdnokmnaaTotals.lean).
  GIVEN WITH THE SEED: the statements are not yours to turn. If you find one false, say at which input.
  Laid BY PROGRAM, IN A SANDBOX (cutbox-rows.mjs): the forced cells as the released guide's own fill.sh prints them over the translation 5b6fb06d594629eb… (all of the seat's roots in one cut). By AI agents, Wed Nov 11 2026. No macro, syntax, notation, axiom, sorry.
-/
import Derived.Test.YtfllfbmdnokmnaaChecked
import GoSem.Claim
import GoSem.ClaimJoined
import GoSem.ClaimMapViews
import Derived.JoinedTies
import Derived.KernelRfl
namespace Go.Proofs.Ytfllfbmdnokmnaa
/- THE CELL 'sum', in the pinned program and in every row, IS THE sha256 OF THE DUMP (.gsa) THAT YtfllfbmdnokmnaaProg.lean LOADS. Nothing in Lean hashes anything: it is a label: what it is worth is what the hold of that sum in a sandbox is worth. -/
noncomputable def Try.pinned : Pinned := { name := "ytfllfbmdnokmnaa", sum := "5b6fb06d594629ebe56b623b26b14445de0da9f7f35115fcceed3c7ce4b0ed10", checked := Try.checked }
namespace Rows
def none {H : Type} : Left H := { results := [], args := [] }

/-- 'laws.FnExactCompressVoice': WHATEVER THE INPUT: true; the input reads as it did. -/
def fnExactCompressVoiceSpec : ChangeSpec := { name := "fnExactCompressVoice", fn := fun _ => fun
  | [d] => { results := [.lit (.bool true)], args := [d] }
  | _ => none }
def fnExactCompressVoiceRow : OpenClaim := { program := "ytfllfbmdnokmnaa", sum := "5b6fb06d594629ebe56b623b26b14445de0da9f7f35115fcceed3c7ce4b0ed10", func := "loop.example/softwareradio/laws.FnExactCompressVoice", spec := "fnExactCompressVoice", apart := false }
def FnExactCompressVoiceSaid : Prop := fnExactCompressVoiceRow.holds Try.pinned (OpenSpec.ofChange fnExactCompressVoiceSpec)

/-- ITS FALSE NEIGHBOUR: 'it returns false'. Refute it at one input. -/
def fnExactCompressVoiceWrong : ChangeSpec := { name := "fnExactCompressVoice", fn := fun _ => fun
  | [d] => { results := [.lit (.bool false)], args := [d] }
  | _ => none }
def FnExactCompressVoiceWrongFalsely : Prop := fnExactCompressVoiceRow.holds Try.pinned (OpenSpec.ofChange fnExactCompressVoiceWrong)

/-- 'laws.FnExactMixVoices': WHATEVER THE INPUT: true; the input reads as it did. -/
def fnExactMixVoicesSpec : ChangeSpec := { name := "fnExactMixVoices", fn := fun _ => fun
  | [d1, d2] => { results := [.lit (.bool true)], args := [d1, d2] }
  | _ => none }
def fnExactMixVoicesRow : OpenClaim := { program := "ytfllfbmdnokmnaa", sum := "5b6fb06d594629ebe56b623b26b14445de0da9f7f35115fcceed3c7ce4b0ed10", func := "loop.example/softwareradio/laws.FnExactMixVoices", spec := "fnExactMixVoices", apart := false }
def FnExactMixVoicesSaid : Prop := fnExactMixVoicesRow.holds Try.pinned (OpenSpec.ofChange fnExactMixVoicesSpec)

/-- ITS FALSE NEIGHBOUR: 'it returns false'. Refute it at one input. -/
def fnExactMixVoicesWrong : ChangeSpec := { name := "fnExactMixVoices", fn := fun _ => fun
  | [d1, d2] => { results := [.lit (.bool false)], args := [d1, d2] }
  | _ => none }
def FnExactMixVoicesWrongFalsely : Prop := fnExactMixVoicesRow.holds Try.pinned (OpenSpec.ofChange fnExactMixVoicesWrong)

/-- 'laws.FnMixVoices': WHATEVER THE INPUT: true; the input reads as it did. -/
def fnMixVoicesSpec : ChangeSpec := { name := "fnMixVoices", fn := fun _ => fun
  | [d] => { results := [.lit (.bool true)], args := [d] }
  | _ => none }
def fnMixVoicesRow : OpenClaim := { program := "ytfllfbmdnokmnaa", sum := "5b6fb06d594629ebe56b623b26b14445de0da9f7f35115fcceed3c7ce4b0ed10", func := "loop.example/softwareradio/laws.FnMixVoices", spec := "fnMixVoices", apart := false }
def FnMixVoicesSaid : Prop := fnMixVoicesRow.holds Try.pinned (OpenSpec.ofChange fnMixVoicesSpec)

/-- ITS FALSE NEIGHBOUR: 'it returns false'. Refute it at one input. -/
def fnMixVoicesWrong : ChangeSpec := { name := "fnMixVoices", fn := fun _ => fun
  | [d] => { results := [.lit (.bool false)], args := [d] }
  | _ => none }
def FnMixVoicesWrongFalsely : Prop := fnMixVoicesRow.holds Try.pinned (OpenSpec.ofChange fnMixVoicesWrong)

/-- 'laws.FnExpandVoice': WHATEVER THE INPUT: true; the input reads as it did. -/
def fnExpandVoiceSpec : ChangeSpec := { name := "fnExpandVoice", fn := fun _ => fun
  | [d] => { results := [.lit (.bool true)], args := [d] }
  | _ => none }
def fnExpandVoiceRow : OpenClaim := { program := "ytfllfbmdnokmnaa", sum := "5b6fb06d594629ebe56b623b26b14445de0da9f7f35115fcceed3c7ce4b0ed10", func := "loop.example/softwareradio/laws.FnExpandVoice", spec := "fnExpandVoice", apart := false }
def FnExpandVoiceSaid : Prop := fnExpandVoiceRow.holds Try.pinned (OpenSpec.ofChange fnExpandVoiceSpec)

/-- ITS FALSE NEIGHBOUR: 'it returns false'. Refute it at one input. -/
def fnExpandVoiceWrong : ChangeSpec := { name := "fnExpandVoice", fn := fun _ => fun
  | [d] => { results := [.lit (.bool false)], args := [d] }
  | _ => none }
def FnExpandVoiceWrongFalsely : Prop := fnExpandVoiceRow.holds Try.pinned (OpenSpec.ofChange fnExpandVoiceWrong)

/-- 'laws.FnCompressVoice': WHATEVER THE INPUT: true; the input reads as it did. -/
def fnCompressVoiceSpec : ChangeSpec := { name := "fnCompressVoice", fn := fun _ => fun
  | [d] => { results := [.lit (.bool true)], args := [d] }
  | _ => none }
def fnCompressVoiceRow : OpenClaim := { program := "ytfllfbmdnokmnaa", sum := "5b6fb06d594629ebe56b623b26b14445de0da9f7f35115fcceed3c7ce4b0ed10", func := "loop.example/softwareradio/laws.FnCompressVoice", spec := "fnCompressVoice", apart := false }
def FnCompressVoiceSaid : Prop := fnCompressVoiceRow.holds Try.pinned (OpenSpec.ofChange fnCompressVoiceSpec)

/-- ITS FALSE NEIGHBOUR: 'it returns false'. Refute it at one input. -/
def fnCompressVoiceWrong : ChangeSpec := { name := "fnCompressVoice", fn := fun _ => fun
  | [d] => { results := [.lit (.bool false)], args := [d] }
  | _ => none }
def FnCompressVoiceWrongFalsely : Prop := fnCompressVoiceRow.holds Try.pinned (OpenSpec.ofChange fnCompressVoiceWrong)

/-- 'laws.FnVoiceOrder': WHATEVER THE INPUT: true; the input reads as it did. -/
def fnVoiceOrderSpec : ChangeSpec := { name := "fnVoiceOrder", fn := fun _ => fun
  | [d1, d2] => { results := [.lit (.bool true)], args := [d1, d2] }
  | _ => none }
def fnVoiceOrderRow : OpenClaim := { program := "ytfllfbmdnokmnaa", sum := "5b6fb06d594629ebe56b623b26b14445de0da9f7f35115fcceed3c7ce4b0ed10", func := "loop.example/softwareradio/laws.FnVoiceOrder", spec := "fnVoiceOrder", apart := false }
def FnVoiceOrderSaid : Prop := fnVoiceOrderRow.holds Try.pinned (OpenSpec.ofChange fnVoiceOrderSpec)

/-- ITS FALSE NEIGHBOUR: 'it returns false'. Refute it at one input. -/
def fnVoiceOrderWrong : ChangeSpec := { name := "fnVoiceOrder", fn := fun _ => fun
  | [d1, d2] => { results := [.lit (.bool false)], args := [d1, d2] }
  | _ => none }
def FnVoiceOrderWrongFalsely : Prop := fnVoiceOrderRow.holds Try.pinned (OpenSpec.ofChange fnVoiceOrderWrong)

/-- 'laws.FnExactBestExchange': WHATEVER THE INPUT: true; the input reads as it did. -/
def fnExactBestExchangeSpec : ChangeSpec := { name := "fnExactBestExchange", fn := fun _ => fun
  | [d] => { results := [.lit (.bool true)], args := [d] }
  | _ => none }
def fnExactBestExchangeRow : OpenClaim := { program := "ytfllfbmdnokmnaa", sum := "5b6fb06d594629ebe56b623b26b14445de0da9f7f35115fcceed3c7ce4b0ed10", func := "loop.example/softwareradio/laws.FnExactBestExchange", spec := "fnExactBestExchange", unfollowed := true, recurses := true, apart := false }
def FnExactBestExchangeSaid : Prop := fnExactBestExchangeRow.holds Try.pinned (OpenSpec.ofChange fnExactBestExchangeSpec)

/-- ITS FALSE NEIGHBOUR: 'it returns false'. Refute it at one input. -/
def fnExactBestExchangeWrong : ChangeSpec := { name := "fnExactBestExchange", fn := fun _ => fun
  | [d] => { results := [.lit (.bool false)], args := [d] }
  | _ => none }
def FnExactBestExchangeWrongFalsely : Prop := fnExactBestExchangeRow.holds Try.pinned (OpenSpec.ofChange fnExactBestExchangeWrong)

/-- 'laws.FnExchangeValid': WHATEVER THE INPUT: true; the input reads as it did. -/
def fnExchangeValidSpec : ChangeSpec := { name := "fnExchangeValid", fn := fun _ => fun
  | [d] => { results := [.lit (.bool true)], args := [d] }
  | _ => none }
def fnExchangeValidRow : OpenClaim := { program := "ytfllfbmdnokmnaa", sum := "5b6fb06d594629ebe56b623b26b14445de0da9f7f35115fcceed3c7ce4b0ed10", func := "loop.example/softwareradio/laws.FnExchangeValid", spec := "fnExchangeValid", apart := false }
def FnExchangeValidSaid : Prop := fnExchangeValidRow.holds Try.pinned (OpenSpec.ofChange fnExchangeValidSpec)

/-- ITS FALSE NEIGHBOUR: 'it returns false'. Refute it at one input. -/
def fnExchangeValidWrong : ChangeSpec := { name := "fnExchangeValid", fn := fun _ => fun
  | [d] => { results := [.lit (.bool false)], args := [d] }
  | _ => none }
def FnExchangeValidWrongFalsely : Prop := fnExchangeValidRow.holds Try.pinned (OpenSpec.ofChange fnExchangeValidWrong)

/-- 'laws.FnClockOffset': WHATEVER THE INPUT: true; the input reads as it did. -/
def fnClockOffsetSpec : ChangeSpec := { name := "fnClockOffset", fn := fun _ => fun
  | [d] => { results := [.lit (.bool true)], args := [d] }
  | _ => none }
def fnClockOffsetRow : OpenClaim := { program := "ytfllfbmdnokmnaa", sum := "5b6fb06d594629ebe56b623b26b14445de0da9f7f35115fcceed3c7ce4b0ed10", func := "loop.example/softwareradio/laws.FnClockOffset", spec := "fnClockOffset", apart := false }
def FnClockOffsetSaid : Prop := fnClockOffsetRow.holds Try.pinned (OpenSpec.ofChange fnClockOffsetSpec)

/-- ITS FALSE NEIGHBOUR: 'it returns false'. Refute it at one input. -/
def fnClockOffsetWrong : ChangeSpec := { name := "fnClockOffset", fn := fun _ => fun
  | [d] => { results := [.lit (.bool false)], args := [d] }
  | _ => none }
def FnClockOffsetWrongFalsely : Prop := fnClockOffsetRow.holds Try.pinned (OpenSpec.ofChange fnClockOffsetWrong)

/-- 'laws.FnClockEven': WHATEVER THE INPUT: true; the input reads as it did. -/
def fnClockEvenSpec : ChangeSpec := { name := "fnClockEven", fn := fun _ => fun
  | [d1, d2] => { results := [.lit (.bool true)], args := [d1, d2] }
  | _ => none }
def fnClockEvenRow : OpenClaim := { program := "ytfllfbmdnokmnaa", sum := "5b6fb06d594629ebe56b623b26b14445de0da9f7f35115fcceed3c7ce4b0ed10", func := "loop.example/softwareradio/laws.FnClockEven", spec := "fnClockEven", apart := false }
def FnClockEvenSaid : Prop := fnClockEvenRow.holds Try.pinned (OpenSpec.ofChange fnClockEvenSpec)

/-- ITS FALSE NEIGHBOUR: 'it returns false'. Refute it at one input. -/
def fnClockEvenWrong : ChangeSpec := { name := "fnClockEven", fn := fun _ => fun
  | [d1, d2] => { results := [.lit (.bool false)], args := [d1, d2] }
  | _ => none }
def FnClockEvenWrongFalsely : Prop := fnClockEvenRow.holds Try.pinned (OpenSpec.ofChange fnClockEvenWrong)

/-- 'laws.FnSteerClock': WHATEVER THE INPUT: true; the input reads as it did. -/
def fnSteerClockSpec : ChangeSpec := { name := "fnSteerClock", fn := fun _ => fun
  | [d] => { results := [.lit (.bool true)], args := [d] }
  | _ => none }
def fnSteerClockRow : OpenClaim := { program := "ytfllfbmdnokmnaa", sum := "5b6fb06d594629ebe56b623b26b14445de0da9f7f35115fcceed3c7ce4b0ed10", func := "loop.example/softwareradio/laws.FnSteerClock", spec := "fnSteerClock", apart := false }
def FnSteerClockSaid : Prop := fnSteerClockRow.holds Try.pinned (OpenSpec.ofChange fnSteerClockSpec)

/-- ITS FALSE NEIGHBOUR: 'it returns false'. Refute it at one input. -/
def fnSteerClockWrong : ChangeSpec := { name := "fnSteerClock", fn := fun _ => fun
  | [d] => { results := [.lit (.bool false)], args := [d] }
  | _ => none }
def FnSteerClockWrongFalsely : Prop := fnSteerClockRow.holds Try.pinned (OpenSpec.ofChange fnSteerClockWrong)

/-- 'laws.FnBestExchange': WHATEVER THE INPUT: true; the input reads as it did. -/
def fnBestExchangeSpec : ChangeSpec := { name := "fnBestExchange", fn := fun _ => fun
  | [d] => { results := [.lit (.bool true)], args := [d] }
  | _ => none }
def fnBestExchangeRow : OpenClaim := { program := "ytfllfbmdnokmnaa", sum := "5b6fb06d594629ebe56b623b26b14445de0da9f7f35115fcceed3c7ce4b0ed10", func := "loop.example/softwareradio/laws.FnBestExchange", spec := "fnBestExchange", unfollowed := true, recurses := true, apart := false }
def FnBestExchangeSaid : Prop := fnBestExchangeRow.holds Try.pinned (OpenSpec.ofChange fnBestExchangeSpec)

/-- ITS FALSE NEIGHBOUR: 'it returns false'. Refute it at one input. -/
def fnBestExchangeWrong : ChangeSpec := { name := "fnBestExchange", fn := fun _ => fun
  | [d] => { results := [.lit (.bool false)], args := [d] }
  | _ => none }
def FnBestExchangeWrongFalsely : Prop := fnBestExchangeRow.holds Try.pinned (OpenSpec.ofChange fnBestExchangeWrong)

/- THE SECOND FORM. 'bulk': how many values and letters a reading holds, each counted each time it is reached (what is shared counts as often as it is met; a slice's spare places count too). A statement '..UptoSaid' is the law's where the arguments, and the package variables that the reading takes, are together of bulk at most 1048576: NARROWER than '..Said'. Prove '..Said' where nothing that the law and all that it calls make is longer than what came in: it says more and counts as full. Else prove '..UptoSaid'. A law counts once. -/
mutual
def uptoBulk {H : Type} : DataW H → Nat
  | .lit (.string bytes) => bytes.length + 1
  | .lit _ => 1
  | .nil => 1
  | .ptr d => uptoBulk d + 1
  | .slice elems spare => uptoBulkAll elems + uptoBulkAll spare + 1
  | .agg parts => uptoBulkAll parts + 1
  | .iface _ d => uptoBulk d + 1
  | .map entries => uptoBulkEntries entries + 1
  | .held _ => 1
def uptoBulkAll {H : Type} : List (DataW H) → Nat
  | [] => 0
  | d :: r => uptoBulk d + uptoBulkAll r
def uptoBulkEntries {H : Type} : List (Lit × DataW H) → Nat
  | [] => 0
  | x :: r => uptoBulkEntry x + uptoBulkEntries r
def uptoBulkEntry {H : Type} : Lit × DataW H → Nat
  | (.string bytes, d) => bytes.length + uptoBulk d + 1
  | (_, d) => uptoBulk d + 1
 end
def uptoSmall : (H : Type) → List (DataW H) → Bool := fun _ ds => decide (uptoBulkAll ds ≤ 1048576)
def OpenSpec.upto (s : _root_.Go.ChangeSpec) : _root_.Go.OpenSpec := { _root_.Go.OpenSpec.ofChange s with cond := some uptoSmall }

/-- 'laws.FnExactCompressVoice', WHERE WHAT IT READS IS OF BULK AT MOST 1048576: true; the input reads as it did. -/
def fnExactCompressVoiceUptoRow : OpenClaim := { program := "ytfllfbmdnokmnaa", sum := "5b6fb06d594629ebe56b623b26b14445de0da9f7f35115fcceed3c7ce4b0ed10", func := "loop.example/softwareradio/laws.FnExactCompressVoice", spec := "fnExactCompressVoice", apart := false, narrowed := true }
def FnExactCompressVoiceUptoSaid : Prop := fnExactCompressVoiceUptoRow.holds Try.pinned (OpenSpec.upto fnExactCompressVoiceSpec)

/-- 'laws.FnExactMixVoices', WHERE WHAT IT READS IS OF BULK AT MOST 1048576: true; the input reads as it did. -/
def fnExactMixVoicesUptoRow : OpenClaim := { program := "ytfllfbmdnokmnaa", sum := "5b6fb06d594629ebe56b623b26b14445de0da9f7f35115fcceed3c7ce4b0ed10", func := "loop.example/softwareradio/laws.FnExactMixVoices", spec := "fnExactMixVoices", apart := false, narrowed := true }
def FnExactMixVoicesUptoSaid : Prop := fnExactMixVoicesUptoRow.holds Try.pinned (OpenSpec.upto fnExactMixVoicesSpec)

/-- 'laws.FnMixVoices', WHERE WHAT IT READS IS OF BULK AT MOST 1048576: true; the input reads as it did. -/
def fnMixVoicesUptoRow : OpenClaim := { program := "ytfllfbmdnokmnaa", sum := "5b6fb06d594629ebe56b623b26b14445de0da9f7f35115fcceed3c7ce4b0ed10", func := "loop.example/softwareradio/laws.FnMixVoices", spec := "fnMixVoices", apart := false, narrowed := true }
def FnMixVoicesUptoSaid : Prop := fnMixVoicesUptoRow.holds Try.pinned (OpenSpec.upto fnMixVoicesSpec)

/-- 'laws.FnExpandVoice', WHERE WHAT IT READS IS OF BULK AT MOST 1048576: true; the input reads as it did. -/
def fnExpandVoiceUptoRow : OpenClaim := { program := "ytfllfbmdnokmnaa", sum := "5b6fb06d594629ebe56b623b26b14445de0da9f7f35115fcceed3c7ce4b0ed10", func := "loop.example/softwareradio/laws.FnExpandVoice", spec := "fnExpandVoice", apart := false, narrowed := true }
def FnExpandVoiceUptoSaid : Prop := fnExpandVoiceUptoRow.holds Try.pinned (OpenSpec.upto fnExpandVoiceSpec)

/-- 'laws.FnCompressVoice', WHERE WHAT IT READS IS OF BULK AT MOST 1048576: true; the input reads as it did. -/
def fnCompressVoiceUptoRow : OpenClaim := { program := "ytfllfbmdnokmnaa", sum := "5b6fb06d594629ebe56b623b26b14445de0da9f7f35115fcceed3c7ce4b0ed10", func := "loop.example/softwareradio/laws.FnCompressVoice", spec := "fnCompressVoice", apart := false, narrowed := true }
def FnCompressVoiceUptoSaid : Prop := fnCompressVoiceUptoRow.holds Try.pinned (OpenSpec.upto fnCompressVoiceSpec)

/-- 'laws.FnVoiceOrder', WHERE WHAT IT READS IS OF BULK AT MOST 1048576: true; the input reads as it did. -/
def fnVoiceOrderUptoRow : OpenClaim := { program := "ytfllfbmdnokmnaa", sum := "5b6fb06d594629ebe56b623b26b14445de0da9f7f35115fcceed3c7ce4b0ed10", func := "loop.example/softwareradio/laws.FnVoiceOrder", spec := "fnVoiceOrder", apart := false, narrowed := true }
def FnVoiceOrderUptoSaid : Prop := fnVoiceOrderUptoRow.holds Try.pinned (OpenSpec.upto fnVoiceOrderSpec)

/-- 'laws.FnExactBestExchange', WHERE WHAT IT READS IS OF BULK AT MOST 1048576: true; the input reads as it did. -/
def fnExactBestExchangeUptoRow : OpenClaim := { program := "ytfllfbmdnokmnaa", sum := "5b6fb06d594629ebe56b623b26b14445de0da9f7f35115fcceed3c7ce4b0ed10", func := "loop.example/softwareradio/laws.FnExactBestExchange", spec := "fnExactBestExchange", unfollowed := true, recurses := true, apart := false, narrowed := true }
def FnExactBestExchangeUptoSaid : Prop := fnExactBestExchangeUptoRow.holds Try.pinned (OpenSpec.upto fnExactBestExchangeSpec)

/-- 'laws.FnExchangeValid', WHERE WHAT IT READS IS OF BULK AT MOST 1048576: true; the input reads as it did. -/
def fnExchangeValidUptoRow : OpenClaim := { program := "ytfllfbmdnokmnaa", sum := "5b6fb06d594629ebe56b623b26b14445de0da9f7f35115fcceed3c7ce4b0ed10", func := "loop.example/softwareradio/laws.FnExchangeValid", spec := "fnExchangeValid", apart := false, narrowed := true }
def FnExchangeValidUptoSaid : Prop := fnExchangeValidUptoRow.holds Try.pinned (OpenSpec.upto fnExchangeValidSpec)

/-- 'laws.FnClockOffset', WHERE WHAT IT READS IS OF BULK AT MOST 1048576: true; the input reads as it did. -/
def fnClockOffsetUptoRow : OpenClaim := { program := "ytfllfbmdnokmnaa", sum := "5b6fb06d594629ebe56b623b26b14445de0da9f7f35115fcceed3c7ce4b0ed10", func := "loop.example/softwareradio/laws.FnClockOffset", spec := "fnClockOffset", apart := false, narrowed := true }
def FnClockOffsetUptoSaid : Prop := fnClockOffsetUptoRow.holds Try.pinned (OpenSpec.upto fnClockOffsetSpec)

/-- 'laws.FnClockEven', WHERE WHAT IT READS IS OF BULK AT MOST 1048576: true; the input reads as it did. -/
def fnClockEvenUptoRow : OpenClaim := { program := "ytfllfbmdnokmnaa", sum := "5b6fb06d594629ebe56b623b26b14445de0da9f7f35115fcceed3c7ce4b0ed10", func := "loop.example/softwareradio/laws.FnClockEven", spec := "fnClockEven", apart := false, narrowed := true }
def FnClockEvenUptoSaid : Prop := fnClockEvenUptoRow.holds Try.pinned (OpenSpec.upto fnClockEvenSpec)

/-- 'laws.FnSteerClock', WHERE WHAT IT READS IS OF BULK AT MOST 1048576: true; the input reads as it did. -/
def fnSteerClockUptoRow : OpenClaim := { program := "ytfllfbmdnokmnaa", sum := "5b6fb06d594629ebe56b623b26b14445de0da9f7f35115fcceed3c7ce4b0ed10", func := "loop.example/softwareradio/laws.FnSteerClock", spec := "fnSteerClock", apart := false, narrowed := true }
def FnSteerClockUptoSaid : Prop := fnSteerClockUptoRow.holds Try.pinned (OpenSpec.upto fnSteerClockSpec)

/-- 'laws.FnBestExchange', WHERE WHAT IT READS IS OF BULK AT MOST 1048576: true; the input reads as it did. -/
def fnBestExchangeUptoRow : OpenClaim := { program := "ytfllfbmdnokmnaa", sum := "5b6fb06d594629ebe56b623b26b14445de0da9f7f35115fcceed3c7ce4b0ed10", func := "loop.example/softwareradio/laws.FnBestExchange", spec := "fnBestExchange", unfollowed := true, recurses := true, apart := false, narrowed := true }
def FnBestExchangeUptoSaid : Prop := fnBestExchangeUptoRow.holds Try.pinned (OpenSpec.upto fnBestExchangeSpec)

end Rows
end Go.Proofs.Ytfllfbmdnokmnaa
