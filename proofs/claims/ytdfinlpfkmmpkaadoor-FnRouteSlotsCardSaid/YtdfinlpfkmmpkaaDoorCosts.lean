import Derived.Test.YtdfinlpfkmmpkaaDoorProg
import Derived.Test.YtdfinlpfkmmpkaaDoorLib
import Derived.Test.YtdfinlpfkmmpkaaDoorMem
import Derived.Test.YtdfinlpfkmmpkaaDoorNum
import Derived.Test.YtdfinlpfkmmpkaaDoorSym
import Derived.Test.YtdfinlpfkmmpkaaDoorInts
import Derived.Test.YtdfinlpfkmmpkaaDoorBlk
import Derived.Test.YtdfinlpfkmmpkaaDoorSS
import Derived.Test.YtdfinlpfkmmpkaaDoorDijPl
namespace Go.Proofs.YtdfinlpfkmmpkaaDoor
open Go.RowKit

/-! Tables of costs. -/
def tt (xss : List (List Int)) (i j : Nat) : Int := gi (gl xss i) j
def cvRow (xss : List (List Int)) (i : Nat) : Bool := decide ((gl xss i).length = xss.length) && decide (tt xss i i = 0) && (List.range xss.length).all fun j => inB (tt xss i j) 0 100
def cvB (xss : List (List Int)) : Bool := decide (xss.length ≤ 10) && (List.range xss.length).all (cvRow xss)
theorem cvB_true {xss : List (List Int)} : cvB xss = true ↔ xss.length ≤ 10 ∧ ∀ i, i < xss.length → cvRow xss i = true := by simp [cvB]
theorem cvRow_true {xss : List (List Int)} {i : Nat} : cvRow xss i = true ↔ (gl xss i).length = xss.length ∧ tt xss i i = 0 ∧ ∀ j, j < xss.length → 0 ≤ tt xss i j ∧ tt xss i j ≤ 100 := by
  simp [cvRow, inB, and_assoc]
theorem cvB_bad {xss : List (List Int)} {i : Nat} (hi : i < xss.length) (h : cvRow xss i = false) : cvB xss = false := by
  cases hb : cvB xss
  · rfl
  · have := (cvB_true.1 hb).2 i hi
    rw [h] at this; exact this.symm
theorem cvB_long {xss : List (List Int)} (h : 10 < xss.length) : cvB xss = false := by
  cases hb : cvB xss
  · rfl
  · have := (cvB_true.1 hb).1; omega
theorem cvRow_len {xss : List (List Int)} {i : Nat} (h : ¬ (gl xss i).length = xss.length) : cvRow xss i = false := by simp [cvRow, h]
theorem cvRow_diag {xss : List (List Int)} {i : Nat} (h : ¬ gi (gl xss i) i = 0) : cvRow xss i = false := by
  have : ¬ tt xss i i = 0 := h
  simp [cvRow, this]
theorem cvRow_num {xss : List (List Int)} {i j : Nat} (hj : j < xss.length) (h : ¬ (0 ≤ gi (gl xss i) j ∧ gi (gl xss i) j ≤ 100)) : cvRow xss i = false := by
  cases hb : cvRow xss i
  · rfl
  · exact absurd ((cvRow_true.1 hb).2.2 j hj) h

end Go.Proofs.YtdfinlpfkmmpkaaDoor
