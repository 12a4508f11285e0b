import Derived.Test.YtjgafkoboolclaaDoorProg
import Derived.Test.YtjgafkoboolclaaDoorLib
import Derived.Test.YtjgafkoboolclaaDoorMem
import Derived.Test.YtjgafkoboolclaaDoorSym
import Derived.Test.YtjgafkoboolclaaDoorInts
import Derived.Test.YtjgafkoboolclaaDoorBytes
import Derived.Test.YtjgafkoboolclaaDoorBlk
import Derived.Test.YtjgafkoboolclaaDoorFrag
import Derived.Test.YtjgafkoboolclaaDoorSplit
import Derived.Test.YtjgafkoboolclaaDoorIdx
import Derived.Test.YtjgafkoboolclaaDoorJoin
import Derived.Test.YtjgafkoboolclaaDoorSplitEx
namespace Go.Proofs.YtjgafkoboolclaaDoor
open Go.RowKit

theorem joinK_len {fs : List Frag} (h : lenF fs) (m : Int) : ∀ n k acc, (joinK fs m n k acc).1.length ≤ acc.length + n * 4000000
  | 0, _, _ => by simp [joinK]
  | n + 1, k, acc => by
    unfold joinK
    cases hl : look fs m (k : Int) fs.length with
    | none => simp
    | some i =>
      have hd := h.2 i (look_some hl).1
      have hlen : (acc ++ (fr fs i).d).length ≤ acc.length + 4000000 := by rw [List.length_append]; omega
      have ih := joinK_len h m n (k + 1) (acc ++ (fr fs i).d)
      rw [Nat.succ_mul]
      generalize n * 4000000 = z at *
      simp only []
      split
      · refine Nat.le_trans hlen ?_
        clear ih hlen
        omega
      · refine Nat.le_trans ih ?_
        clear ih
        generalize (acc ++ (fr fs i).d).length = y at *
        omega
theorem joinF_len {fs : List Frag} (h : lenF fs) (m : Int) : (joinF fs m).1.length ≤ 200000000 :=
  Nat.le_trans (joinK_len h m 50 0 []) (by simp)


end Go.Proofs.YtjgafkoboolclaaDoor
