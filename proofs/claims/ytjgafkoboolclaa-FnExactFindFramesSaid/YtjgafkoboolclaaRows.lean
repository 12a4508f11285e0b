/-
  No cell of these rows narrows 'for every input' (looked for: loops, veiled, ifaces, maps, wideKeys, modest, calm, conditions, laid).
  DERIVED. THE GIVEN ROWS OF THIS SEAT. 5 by the template 'for every input the law returns true; each argument reads behind the call as it read before'; 0 by the template 'total and deterministic' (their statements: YtjgafkoboolclaaTotals.lean).
  GIVEN WITH THE SEED: the statements are not yours to turn. If you find one false, say at which input.
  Laid BY PROGRAM, IN A SANDBOX (cutbox-rows.mjs): the forced cells as the released guide's own fill.sh prints them over the translation c330dad4fe42c03f… (all of the seat's roots in one cut). By AI agents, Wed Nov 11 2026. No macro, syntax, notation, axiom, sorry.
-/
import Derived.Test.YtjgafkoboolclaaChecked
import GoSem.Claim
import GoSem.ClaimJoined
import GoSem.ClaimMapViews
import Derived.JoinedTies
import Derived.KernelRfl
namespace Go.Proofs.Ytjgafkoboolclaa
/- THE CELL 'sum', in the pinned program and in every row, IS THE sha256 OF THE DUMP (.gsa) THAT YtjgafkoboolclaaProg.lean LOADS. Nothing in Lean hashes anything: it is a label: what it is worth is what the hold of that sum in a sandbox is worth. -/
noncomputable def Try.pinned : Pinned := { name := "ytjgafkoboolclaa", sum := "c330dad4fe42c03f6ee206946d510effb0e5526fcf0270069272537a340d05d8", checked := Try.checked }
namespace Rows
def none {H : Type} : Left H := { results := [], args := [] }

/-- 'laws.FnExactUnstuffBits': WHATEVER THE INPUT: true; the input reads as it did. -/
def fnExactUnstuffBitsSpec : ChangeSpec := { name := "fnExactUnstuffBits", fn := fun _ => fun
  | [d] => { results := [.lit (.bool true)], args := [d] }
  | _ => none }
def fnExactUnstuffBitsRow : OpenClaim := { program := "ytjgafkoboolclaa", sum := "c330dad4fe42c03f6ee206946d510effb0e5526fcf0270069272537a340d05d8", func := "loop.example/softwareradio/laws.FnExactUnstuffBits", spec := "fnExactUnstuffBits", apart := false }
def FnExactUnstuffBitsSaid : Prop := fnExactUnstuffBitsRow.holds Try.pinned (OpenSpec.ofChange fnExactUnstuffBitsSpec)

/-- ITS FALSE NEIGHBOUR: 'it returns false'. Refute it at one input. -/
def fnExactUnstuffBitsWrong : ChangeSpec := { name := "fnExactUnstuffBits", fn := fun _ => fun
  | [d] => { results := [.lit (.bool false)], args := [d] }
  | _ => none }
def FnExactUnstuffBitsWrongFalsely : Prop := fnExactUnstuffBitsRow.holds Try.pinned (OpenSpec.ofChange fnExactUnstuffBitsWrong)

/-- 'laws.FnExactStuffBits': WHATEVER THE INPUT: true; the input reads as it did. -/
def fnExactStuffBitsSpec : ChangeSpec := { name := "fnExactStuffBits", fn := fun _ => fun
  | [d] => { results := [.lit (.bool true)], args := [d] }
  | _ => none }
def fnExactStuffBitsRow : OpenClaim := { program := "ytjgafkoboolclaa", sum := "c330dad4fe42c03f6ee206946d510effb0e5526fcf0270069272537a340d05d8", func := "loop.example/softwareradio/laws.FnExactStuffBits", spec := "fnExactStuffBits", apart := false }
def FnExactStuffBitsSaid : Prop := fnExactStuffBitsRow.holds Try.pinned (OpenSpec.ofChange fnExactStuffBitsSpec)

/-- ITS FALSE NEIGHBOUR: 'it returns false'. Refute it at one input. -/
def fnExactStuffBitsWrong : ChangeSpec := { name := "fnExactStuffBits", fn := fun _ => fun
  | [d] => { results := [.lit (.bool false)], args := [d] }
  | _ => none }
def FnExactStuffBitsWrongFalsely : Prop := fnExactStuffBitsRow.holds Try.pinned (OpenSpec.ofChange fnExactStuffBitsWrong)

/-- 'laws.FnStuffBits': WHATEVER THE INPUT: true; the input reads as it did. -/
def fnStuffBitsSpec : ChangeSpec := { name := "fnStuffBits", fn := fun _ => fun
  | [d] => { results := [.lit (.bool true)], args := [d] }
  | _ => none }
def fnStuffBitsRow : OpenClaim := { program := "ytjgafkoboolclaa", sum := "c330dad4fe42c03f6ee206946d510effb0e5526fcf0270069272537a340d05d8", func := "loop.example/softwareradio/laws.FnStuffBits", spec := "fnStuffBits", apart := false }
def FnStuffBitsSaid : Prop := fnStuffBitsRow.holds Try.pinned (OpenSpec.ofChange fnStuffBitsSpec)

/-- ITS FALSE NEIGHBOUR: 'it returns false'. Refute it at one input. -/
def fnStuffBitsWrong : ChangeSpec := { name := "fnStuffBits", fn := fun _ => fun
  | [d] => { results := [.lit (.bool false)], args := [d] }
  | _ => none }
def FnStuffBitsWrongFalsely : Prop := fnStuffBitsRow.holds Try.pinned (OpenSpec.ofChange fnStuffBitsWrong)

/-- 'laws.FnUnstuffBits': WHATEVER THE INPUT: true; the input reads as it did. -/
def fnUnstuffBitsSpec : ChangeSpec := { name := "fnUnstuffBits", fn := fun _ => fun
  | [d] => { results := [.lit (.bool true)], args := [d] }
  | _ => none }
def fnUnstuffBitsRow : OpenClaim := { program := "ytjgafkoboolclaa", sum := "c330dad4fe42c03f6ee206946d510effb0e5526fcf0270069272537a340d05d8", func := "loop.example/softwareradio/laws.FnUnstuffBits", spec := "fnUnstuffBits", apart := false }
def FnUnstuffBitsSaid : Prop := fnUnstuffBitsRow.holds Try.pinned (OpenSpec.ofChange fnUnstuffBitsSpec)

/-- ITS FALSE NEIGHBOUR: 'it returns false'. Refute it at one input. -/
def fnUnstuffBitsWrong : ChangeSpec := { name := "fnUnstuffBits", fn := fun _ => fun
  | [d] => { results := [.lit (.bool false)], args := [d] }
  | _ => none }
def FnUnstuffBitsWrongFalsely : Prop := fnUnstuffBitsRow.holds Try.pinned (OpenSpec.ofChange fnUnstuffBitsWrong)

/-- 'laws.FnExactFindFrames': WHATEVER THE INPUT: true; the input reads as it did. -/
def fnExactFindFramesSpec : ChangeSpec := { name := "fnExactFindFrames", fn := fun _ => fun
  | [d] => { results := [.lit (.bool true)], args := [d] }
  | _ => none }
def fnExactFindFramesRow : OpenClaim := { program := "ytjgafkoboolclaa", sum := "c330dad4fe42c03f6ee206946d510effb0e5526fcf0270069272537a340d05d8", func := "loop.example/softwareradio/laws.FnExactFindFrames", spec := "fnExactFindFrames", apart := false }
def FnExactFindFramesSaid : Prop := fnExactFindFramesRow.holds Try.pinned (OpenSpec.ofChange fnExactFindFramesSpec)

/-- ITS FALSE NEIGHBOUR: 'it returns false'. Refute it at one input. -/
def fnExactFindFramesWrong : ChangeSpec := { name := "fnExactFindFrames", fn := fun _ => fun
  | [d] => { results := [.lit (.bool false)], args := [d] }
  | _ => none }
def FnExactFindFramesWrongFalsely : Prop := fnExactFindFramesRow.holds Try.pinned (OpenSpec.ofChange fnExactFindFramesWrong)

/- THE SECOND FORM. 'bulk': how many values and letters a reading holds, each counted each time it is reached (what is shared counts as often as it is met; a slice's spare places count too). A statement '..UptoSaid' is the law's where the arguments, and the package variables that the reading takes, are together of bulk at most 1048576: NARROWER than '..Said'. Prove '..Said' where nothing that the law and all that it calls make is longer than what came in: it says more and counts as full. Else prove '..UptoSaid'. A law counts once. -/
mutual
def uptoBulk {H : Type} : DataW H → Nat
  | .lit (.string bytes) => bytes.length + 1
  | .lit _ => 1
  | .nil => 1
  | .ptr d => uptoBulk d + 1
  | .slice elems spare => uptoBulkAll elems + uptoBulkAll spare + 1
  | .agg parts => uptoBulkAll parts + 1
  | .iface _ d => uptoBulk d + 1
  | .map entries => uptoBulkEntries entries + 1
  | .held _ => 1
def uptoBulkAll {H : Type} : List (DataW H) → Nat
  | [] => 0
  | d :: r => uptoBulk d + uptoBulkAll r
def uptoBulkEntries {H : Type} : List (Lit × DataW H) → Nat
  | [] => 0
  | x :: r => uptoBulkEntry x + uptoBulkEntries r
def uptoBulkEntry {H : Type} : Lit × DataW H → Nat
  | (.string bytes, d) => bytes.length + uptoBulk d + 1
  | (_, d) => uptoBulk d + 1
 end
def uptoSmall : (H : Type) → List (DataW H) → Bool := fun _ ds => decide (uptoBulkAll ds ≤ 1048576)
def OpenSpec.upto (s : _root_.Go.ChangeSpec) : _root_.Go.OpenSpec := { _root_.Go.OpenSpec.ofChange s with cond := some uptoSmall }

/-- 'laws.FnExactUnstuffBits', WHERE WHAT IT READS IS OF BULK AT MOST 1048576: true; the input reads as it did. -/
def fnExactUnstuffBitsUptoRow : OpenClaim := { program := "ytjgafkoboolclaa", sum := "c330dad4fe42c03f6ee206946d510effb0e5526fcf0270069272537a340d05d8", func := "loop.example/softwareradio/laws.FnExactUnstuffBits", spec := "fnExactUnstuffBits", apart := false, narrowed := true }
def FnExactUnstuffBitsUptoSaid : Prop := fnExactUnstuffBitsUptoRow.holds Try.pinned (OpenSpec.upto fnExactUnstuffBitsSpec)

/-- 'laws.FnExactStuffBits', WHERE WHAT IT READS IS OF BULK AT MOST 1048576: true; the input reads as it did. -/
def fnExactStuffBitsUptoRow : OpenClaim := { program := "ytjgafkoboolclaa", sum := "c330dad4fe42c03f6ee206946d510effb0e5526fcf0270069272537a340d05d8", func := "loop.example/softwareradio/laws.FnExactStuffBits", spec := "fnExactStuffBits", apart := false, narrowed := true }
def FnExactStuffBitsUptoSaid : Prop := fnExactStuffBitsUptoRow.holds Try.pinned (OpenSpec.upto fnExactStuffBitsSpec)

/-- 'laws.FnStuffBits', WHERE WHAT IT READS IS OF BULK AT MOST 1048576: true; the input reads as it did. -/
def fnStuffBitsUptoRow : OpenClaim := { program := "ytjgafkoboolclaa", sum := "c330dad4fe42c03f6ee206946d510effb0e5526fcf0270069272537a340d05d8", func := "loop.example/softwareradio/laws.FnStuffBits", spec := "fnStuffBits", apart := false, narrowed := true }
def FnStuffBitsUptoSaid : Prop := fnStuffBitsUptoRow.holds Try.pinned (OpenSpec.upto fnStuffBitsSpec)

/-- 'laws.FnUnstuffBits', WHERE WHAT IT READS IS OF BULK AT MOST 1048576: true; the input reads as it did. -/
def fnUnstuffBitsUptoRow : OpenClaim := { program := "ytjgafkoboolclaa", sum := "c330dad4fe42c03f6ee206946d510effb0e5526fcf0270069272537a340d05d8", func := "loop.example/softwareradio/laws.FnUnstuffBits", spec := "fnUnstuffBits", apart := false, narrowed := true }
def FnUnstuffBitsUptoSaid : Prop := fnUnstuffBitsUptoRow.holds Try.pinned (OpenSpec.upto fnUnstuffBitsSpec)

/-- 'laws.FnExactFindFrames', WHERE WHAT IT READS IS OF BULK AT MOST 1048576: true; the input reads as it did. -/
def fnExactFindFramesUptoRow : OpenClaim := { program := "ytjgafkoboolclaa", sum := "c330dad4fe42c03f6ee206946d510effb0e5526fcf0270069272537a340d05d8", func := "loop.example/softwareradio/laws.FnExactFindFrames", spec := "fnExactFindFrames", apart := false, narrowed := true }
def FnExactFindFramesUptoSaid : Prop := fnExactFindFramesUptoRow.holds Try.pinned (OpenSpec.upto fnExactFindFramesSpec)

end Rows
end Go.Proofs.Ytjgafkoboolclaa
