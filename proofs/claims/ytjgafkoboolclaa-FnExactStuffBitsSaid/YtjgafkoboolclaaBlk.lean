import Derived.Test.YtjgafkoboolclaaProg
import Derived.Test.YtjgafkoboolclaaSym
import Derived.Test.YtjgafkoboolclaaRead
namespace Go.Proofs.Ytjgafkoboolclaa
open Go.RowKit

theorem blk_set {w : World} {B : Nat} {c : Array Value} {t : TypeId} (h : w.heap[B]? = some (.cells c t (0, 0))) (i : Nat) (x : Value) : (w.setCell ⟨B, i, none⟩ x).heap[B]? = some (.cells (c.setIfInBounds i x) t (0, 0)) :=
  (heap_setCell_same w B i c t x h).trans (by simp)
theorem SH.setBlk {row : Option Nat} {w0 w : World} {I : List Part} {B : Nat} {c : Array Value} {t : TypeId} (h : SH row w0 w (blkP B c t :: I)) (i : Nat) (x : Value) : SH row w0 (w.setCell ⟨B, i, none⟩ x) (blkP B (c.setIfInBounds i x) t :: I) :=
  h.write (r := some B) ⟨rfl, rfl, rfl, by simp [World.setCell], fun q _ hq => Below.heap_setCell _ _ _ _ (fun e => hq (by rw [e]))⟩ (fun g e => (Option.some.inj e).symm) (blk_set (show w.heap[B]? = _ from h.p0) i x) (fun g h => .inl h) (fun g h => .inl h)

/-- a call that returns a new slice and a Bool -/
theorem SH.ownT {row : Option Nat} {w0 w : World} {I : List Part} {P : Program} {fn : FuncId} {args : Array Value} {W : World} {k : IntKind} {t : TypeId} {xs : List Int} {b : Bool} (hs : SH row w0 w I) (hb : Below w.heap.size w W)
    (hc : SH row w0 W I → Calls P fn args W (Ret W fun v w' => ∃ v', v = .tuple #[v', .bool b] ∧ OwnK k w' W.heap.size t v' xs)) : Calls P fn args W (fun e w' => ∃ v, e = .returned (.tuple #[v, .bool b]) ∧ SH row w0 w' (ownP k t v xs :: I)) :=
  (hc (hs.below hb)).mono fun _ _ ⟨v, h1, ⟨v', h2, h4⟩, h3⟩ => ⟨v', by rw [h1, h2], (hs.below hb).pushOwn h3 h4⟩

end Go.Proofs.Ytjgafkoboolclaa
